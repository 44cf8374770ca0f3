/- One text out of several: Av8, Av8p, Av8r, Av8s, Av7c, Av8q, Av10, Av11, Av12. No condition but theirs. -/
import Derived.Tactics
import Derived.Laws.MakeOwn
import Derived.Laws.BytesArg
import Derived.Laws.IdiomStrings
import Derived.LaidEqlPtr
import Derived.Test.YtfacmphjplablaaDoorZSenderMay1
namespace Go.Proofs.YtfacmphjplablaaDoor.Av
open Go Go.RowKit
set_option linter.unusedVariables false
set_option linter.unusedSimpArgs false

def hasBody (P : Program) (f : FuncId) : Bool :=
  match P.funcs[f]? with
  | some fn => fn.name != "runtime.NumGoroutine" && fn.body.isSome
  | none => false

structure Ends (C : Cx) (t0 : Nat → Prop) (w : World) (C' : Cx) (w' : World) : Prop where
  box : ∀ b B, C.box b = some B → C'.box b = some B
  fr : Fr t0 w w'
  ex : ∀ B, C.ex B → C'.ex B
  exn : ∀ B, C'.ex B → C.ex B ∨ w.heap.size ≤ B
  tb : ∀ b B, C'.box b = some B → t0 B ∨ w.heap.size ≤ B
  tr : ∀ k B s sz n, C'.row k = some (some (B, s, sz, n)) → t0 B ∨ w.heap.size ≤ B

/-- What a call of f comes to: of arguments, own variables handed by place, and own rows; R tells the result, the variables' cells and the rows behind it. -/
def Fun (P : Program) (f : FuncId) (args : List G) (bs : List (List G)) (rs : List (List (List G))) (R : G → List (Option (List G)) → List (Option (List (List G))) → Prop) : Prop :=
  hasBody P f = true ∧ ∀ (C : Cx) (w : World) (t0 : Nat → Prop) (vs : List Value), vs.length = args.length → (∀ (i : Nat) g v, args[i]? = some g → vs[i]? = some v → Rep C w g v) →
    Mem C w (bs.map some) (rs.map some) → (∀ B, t0 B → C.ex B) → (∀ b B, C.box b = some B → t0 B) → (∀ k B s sz n, C.row k = some (some (B, s, sz, n)) → t0 B) → Fixed w C.ex →
    Calls P f ⟨vs⟩ w fun e w' => ∃ v C' g bs' rs', e = .returned v ∧ R g bs' rs' ∧ Rep C' w' g v ∧ Mem C' w' bs' rs' ∧ Ends C t0 w C' w'

/-- A value that names nothing of the call's own, in its parts too. -/
def G.closedR : G → Bool
  | .tup gs => gs.all G.closed
  | g => g.closed
/-- A value without slices. -/
def G.flat0 : G → Bool
  | .int .. | .bool _ | .str _ | .lit _ => true
  | _ => false
def G.flatR : G → Bool
  | .agg gs => gs.all G.flat0
  | .tup gs => gs.all fun | .agg hs => hs.all G.flat0 | g => g.flat0
  | g => g.flat0

/-- A call by values: its result. -/
def Fv (P : Program) (f : FuncId) (args : List G) (g : G) : Prop := Fun P f args [] [] fun g' bs' rs' => g' = g ∧ bs' = [] ∧ rs' = []

theorem Rep.closed {C C' : Cx} {w w' : World} {g : G} {v : Value} (h : Rep C w g v) (hg : g.closed = true) (hk : Keeps C.ex w w') (hx : ∀ B, B < w.heap.size → ¬ C.ex B → ¬ C'.ex B) : Rep C' w' g v := by
  have key1 : ∀ g v, Rep C w g v → g.closed1 = true → Rep C' w' g v := fun g v h hg => by
    by_cases h0 : g.closed0 = true
    · exact h.keep0 h0 hk hx
    · cases h with
      | agg gs vs hl hc hv h =>
        simp only [G.closed1, List.all_eq_true] at hg
        exact .agg gs vs hl hc hv (fun i g v h1 h2 => (h i g v h1 h2).keep0 (hg g (List.mem_of_getElem? h1)) hk hx)
      | _ => simp_all [G.closed1, G.closed0]
  by_cases h0 : g.closed0 = true
  · exact h.keep0 h0 hk hx
  · cases h with
    | agg gs vs hl hc hv h =>
      simp only [G.closed, List.all_eq_true] at hg
      exact .agg gs vs hl hc hv (fun i g v h1 h2 => (h i g v h1 h2).keep0 (hg g (List.mem_of_getElem? h1)) hk hx)
    | fn f caps vs hl h =>
      simp only [G.closed, List.all_eq_true] at hg
      exact .fn f caps vs hl (fun i g v h1 h2 => key1 g v (h i g v h1 h2) (hg g (List.mem_of_getElem? h1)))
    | _ => simp_all [G.closed, G.closed0]
theorem Rep.closedR {C C' : Cx} {w w' : World} {g : G} {v : Value} (h : Rep C w g v) (hg : g.closedR = true) (hk : Keeps C.ex w w') (hx : ∀ B, B < w.heap.size → ¬ C.ex B → ¬ C'.ex B) : Rep C' w' g v := by
  by_cases h0 : g.closed = true
  · exact h.closed h0 hk hx
  · cases h with
    | tup gs vs hl h =>
      simp only [G.closedR, List.all_eq_true] at hg
      exact .tup gs vs hl (fun i g v h1 h2 => (h i g v h1 h2).closed (hg g (List.mem_of_getElem? h1)) hk hx)
    | _ => simp_all [G.closedR]

theorem mem0 (w : World) (ex : Nat → Prop) (h : ∀ B, ex B → B < w.heap.size) : Mem { box := fun _ => none, row := fun _ => none, ex := ex } w [] [] :=
  ⟨fun b cs hb => by simp at hb, fun k xs hk => by simp at hk, fun _ _ h => (by cases h), fun _ _ h => (by cases h), fun _ _ _ h => (by cases h), fun _ _ _ _ _ _ _ _ _ h => (by cases h), fun _ _ _ _ _ _ h => (by cases h), h⟩
end Go.Proofs.YtfacmphjplablaaDoor.Av
namespace Go.Proofs.YtfacmphjplablaaDoor.Av
open Go Go.RowKit
set_option linter.unusedVariables false
set_option linter.unusedSimpArgs false

universe v
/-! Which own things a value names; other names for them. -/
def refB0 : G → List Nat
  | .ptr b _ => [b]
  | _ => []
def refB1 : G → List Nat
  | .agg gs => gs.flatMap refB0
  | g => refB0 g
def refB : G → List Nat
  | .fn _ caps => caps.flatMap refB1
  | .tup gs => gs.flatMap refB1
  | g => refB1 g
def refR0 : G → List Nat
  | .own k _ _ => [k]
  | .eltw k _ _ => [k]
  | .dat k => [k]
  | _ => []
def refR1 : G → List Nat
  | .agg gs => gs.flatMap refR0
  | g => refR0 g
def refR : G → List Nat
  | .fn _ caps => caps.flatMap refR1
  | .tup gs => gs.flatMap refR1
  | g => refR1 g
def ren0 (f r : Nat → Option Nat) : G → G
  | .ptr b o => match f b with | some i => .ptr i o | none => .dead
  | .own k o l => match r k with | some i => .own i o l | none => .dead
  | .eltw k i o => match r k with | some j => .eltw j i o | none => .dead
  | .dat k => match r k with | some j => .dat j | none => .dead
  | .fn g [] => .fn g []
  | .fn .. => .dead
  | .meth .. => .dead
  | g => g
def ren1 (f r : Nat → Option Nat) : G → G
  | .agg gs => .agg (gs.map (ren0 f r))
  | .tup _ => .junk
  | g => ren0 f r g
def ren (f r : Nat → Option Nat) : G → G
  | .fn g caps => .fn g (caps.map (ren1 f r))
  | .tup gs => .tup (gs.map (ren1 f r))
  | g => ren1 f r g

/-- The names f and r lead from C to C'. -/
structure Leads (C C' : Cx) (w w' : World) (f r : Nat → Option Nat) : Prop where
  box : ∀ b i B, f b = some i → C.box b = some B → C'.box i = some B
  row : ∀ k i q, r k = some i → C.row k = some q → C'.row i = some q
  keeps : Keeps C.ex w w'
  ex : ∀ B, B < w.heap.size → ¬ C.ex B → ¬ C'.ex B

theorem closed0_ren0 {g : G} (h : g.closed0 = true) (f r : Nat → Option Nat) : ren0 f r g = g := by cases g <;> simp_all [G.closed0, ren0]
theorem cell_ren0 {g : G} (h : g.cell = true) (f r : Nat → Option Nat) : (ren0 f r g).cell = true := by
  cases g with
  | fn _ caps => cases caps <;> rfl
  | ptr b o => show G.cell (match f b with | some i => _ | none => _) = true; split <;> rfl
  | own k o l => show G.cell (match r k with | some i => _ | none => _) = true; split <;> rfl
  | eltw k i o => show G.cell (match r k with | some i => _ | none => _) = true; split <;> rfl
  | dat k => show G.cell (match r k with | some i => _ | none => _) = true; split <;> rfl
  | _ => first | rfl | (simp [G.cell] at h; done)
theorem Rep.ren0 {C C' : Cx} {w w' : World} {f r : Nat → Option Nat} (hl : Leads C C' w w' f r) {g : G} {v : Value} (h : Rep C w g v) (hc : g.cell = true) : Rep C' w' (ren0 f r g) v := by
  have h1 := h.oneCell hc
  by_cases h0 : g.closed0 = true
  · rw [closed0_ren0 h0]; exact h.keep0 h0 hl.keeps hl.ex
  · cases h with
    | fn g caps vs hlen hr =>
      cases caps with
      | nil => exact .fn g [] vs hlen (fun i g v hg => by simp at hg)
      | cons _ _ => exact .dead _ rfl
    | meth f gs vs hl hr => exact .dead _ rfl
    | own k off len B s sz n a hr ho ha =>
      show Rep _ _ (match r k with | some i => _ | none => _) _
      split
      · rename_i i e; exact .own i off len B s sz n a (hl.row _ _ _ e hr) ho ha
      · exact .dead _ rfl
    | ownnil k A hr =>
      show Rep _ _ (match r k with | some i => _ | none => _) _
      split
      · rename_i i e; exact .ownnil i A (hl.row _ _ _ e hr)
      · exact .dead _ rfl
    | ptr b off B hb =>
      show Rep _ _ (match f b with | some i => _ | none => _) _
      split
      · rename_i i e; exact .ptr i off B (hl.box _ _ _ e hb)
      · exact .dead _ rfl
    | elt row off B o q hlt hex hcl hcell h =>
      exact .elt row off B o q (Nat.lt_of_lt_of_le hlt hl.keeps.size) (hl.ex _ hlt hex) hcl (fun j g hg => by rw [hl.keeps.cell (a := ⟨B, o + j, none⟩) hlt hex]; exact hcell j g hg) (fun j g hg => (h j g hg).keep0 (hcl g (List.mem_of_getElem? hg)) hl.keeps hl.ex)
    | eltw k i off B s sz n hr =>
      show Rep _ _ (match r k with | some i => _ | none => _) _
      split
      · rename_i i e; exact .eltw i _ off B s sz n (hl.row _ _ _ e hr)
      · exact .dead _ rfl
    | dat k B s sz n hn hr =>
      show Rep _ _ (match r k with | some i => _ | none => _) _
      split
      · rename_i i e; exact .dat i B s sz n hn (hl.row _ _ _ e hr)
      · exact .dead _ rfl
    | datnil k p hr =>
      show Rep _ _ (match r k with | some i => _ | none => _) _
      split
      · rename_i i e; exact .datnil i p (hl.row _ _ _ e hr)
      · exact .dead _ rfl
    | dead v h => exact .dead _ h
    | _ => simp_all [G.closed0, G.cell]
theorem Rep.ren1 {C C' : Cx} {w w' : World} {f r : Nat → Option Nat} (hl : Leads C C' w w' f r) {g : G} {v : Value} (h : Rep C w g v) : Rep C' w' (ren1 f r g) v := by
  by_cases hcc : g.cell = true
  · have e : Av.ren1 f r g = Av.ren0 f r g := by cases g <;> first | rfl | (simp [G.cell] at hcc; done)
    rw [e]; exact h.ren0 hl hcc
  · cases h with
    | agg gs vs hlen hc hv h =>
      refine .agg _ vs (by simp [hlen]) (fun g hg => ?_) hv (fun i g v hg hv' => ?_)
      · obtain ⟨x, hx, rfl⟩ := List.mem_map.1 hg; exact cell_ren0 (hc x hx) f r
      · rw [List.getElem?_map] at hg
        obtain ⟨x, hx, rfl⟩ := Option.map_eq_some_iff.1 hg
        exact (h i x v hx hv').ren0 hl (hc x (List.mem_of_getElem? hx))
    | tup => exact .junk _
    | junk => exact .junk _
    | und => exact .und
    | _ => simp_all [G.cell]
theorem Rep.ren {C C' : Cx} {w w' : World} {f r : Nat → Option Nat} (hl : Leads C C' w w' f r) {g : G} {v : Value} (h : Rep C w g v) : Rep C' w' (ren f r g) v := by
  by_cases hf : ∃ f caps, g = .fn f caps
  · obtain ⟨q, caps, rfl⟩ := hf
    cases h with
    | fn _ _ vs hlen h =>
      refine .fn q _ vs (by simp [hlen]) (fun i g v hg hv => ?_)
      rw [List.getElem?_map] at hg
      obtain ⟨x, hx, rfl⟩ := Option.map_eq_some_iff.1 hg
      exact (h i x v hx hv).ren1 hl
  · by_cases ht : ∃ gs, g = .tup gs
    · obtain ⟨gs, rfl⟩ := ht
      cases h with
      | tup _ vs hlen h =>
        refine .tup _ vs (by simp [hlen]) (fun i g v hg hv => ?_)
        rw [List.getElem?_map] at hg
        obtain ⟨x, hx, rfl⟩ := Option.map_eq_some_iff.1 hg
        exact (h i x v hx hv).ren1 hl
    · have e : Av.ren f r g = Av.ren1 f r g := by cases g <;> first | rfl | exact absurd ⟨_, _, rfl⟩ hf | exact absurd ⟨_, rfl⟩ ht
      rw [e]; exact h.ren1 hl

/-! Lists of names. -/
def pos (l : List Nat) (b : Nat) : Option Nat := go l 0
where
  go : List Nat → Nat → Option Nat
  | [], _ => none
  | x :: xs, i => bif Nat.beq x b then some i else go xs (i + 1)
theorem pos_go {b : Nat} : ∀ (l : List Nat) (i j : Nat), pos.go b l i = some j → ∃ n, j = i + n ∧ l[n]? = some b
  | [], i, j, h => by simp [pos.go] at h
  | x :: xs, i, j, h => by
    unfold pos.go at h
    cases hb : Nat.beq x b with
    | true => rw [hb] at h; simp at h; subst h; exact ⟨0, rfl, by simp [Nat.eq_of_beq_eq_true hb]⟩
    | false =>
      rw [hb] at h
      obtain ⟨n, rfl, hn⟩ := pos_go xs (i + 1) j h
      exact ⟨n + 1, by omega, by simpa using hn⟩
theorem pos_some {l : List Nat} {b j : Nat} (h : pos l b = some j) : l[j]? = some b := by
  obtain ⟨n, rfl, hn⟩ := pos_go l 0 j h
  simpa using hn
theorem pos_go_none {b : Nat} : ∀ (l : List Nat) (i : Nat), pos.go b l i = none → b ∉ l
  | [], i, h => by simp
  | x :: xs, i, h => by
    unfold pos.go at h
    cases hb : Nat.beq x b with
    | true => rw [hb] at h; simp at h
    | false =>
      rw [hb] at h
      have := pos_go_none xs (i + 1) h
      have := Nat.ne_of_beq_eq_false hb
      simp; exact ⟨fun e => this e.symm, by assumption⟩
theorem pos_none {l : List Nat} {b : Nat} (h : pos l b = none) : b ∉ l := pos_go_none l 0 h
theorem pos_at {l : List Nat} (hn : l.Nodup) {b j : Nat} (h : l[j]? = some b) : pos l b = some j := by
  cases hp : pos l b with
  | none => exact absurd (List.mem_of_getElem? h) (pos_none hp)
  | some i =>
    have hi := pos_some hp
    have h1 := (List.getElem?_eq_some_iff.1 hi)
    have h2 := (List.getElem?_eq_some_iff.1 h)
    rw [(List.getElem?_inj h1.1 hn).1 (hi.trans h.symm)]
def distinct : List Nat → Bool
  | [] => true
  | x :: xs => !(xs.any (Nat.beq x)) && distinct xs
theorem distinct_nodup : ∀ {l : List Nat}, distinct l = true → l.Nodup
  | [], _ => List.nodup_nil
  | x :: xs, h => by
    simp only [distinct, Bool.and_eq_true, Bool.not_eq_true', List.any_eq_false] at h
    refine List.nodup_cons.2 ⟨fun hm => ?_, distinct_nodup h.2⟩
    have := h.1 x hm
    simp at this
/-- (Lists worked out ahead.) -/
noncomputable def fI {β : Sort v} (l : List Nat) : (List Nat → β) → β := List.rec (motive := fun _ => (List Nat → β) → β) (fun k => k []) (fun n _ ih k => fN n fun n => ih fun ns => k (n :: ns)) l
theorem fI_eq {β : Sort v} : ∀ (l : List Nat) (k : List Nat → β), fI l k = k l
  | [], k => rfl
  | n :: ns, k => by show fN n (fun n => fI ns fun ns => k (n :: ns)) = _; rw [fN_eq, fI_eq ns]
noncomputable def addNew (l : List Nat) (bs : List Nat) : List Nat := List.rec (motive := fun _ => List Nat → List Nat) (fun l => l) (fun b _ ih l => fI (bif l.any (Nat.beq b) then l else l ++ [b]) fun l' => ih l') bs l
theorem addNew_nil (l : List Nat) : addNew l [] = l := rfl
theorem addNew_cons (l : List Nat) (b : Nat) (bs : List Nat) : addNew l (b :: bs) = addNew (bif l.any (Nat.beq b) then l else l ++ [b]) bs := by
  show fI _ (fun l' => addNew l' bs) = _
  rw [fI_eq]
/-- A list's element, by recursors. -/
noncomputable def gD {α : Type} (d : α) (l : List α) : Nat → α := List.rec (motive := fun _ => Nat → α) (fun _ => d) (fun x _ ih n => Nat.rec (motive := fun _ => α) x (fun m _ => ih m) n) l
theorem gD_eq {α : Type} (d : α) : ∀ (l : List α) (n : Nat), gD d l n = l.getD n d
  | [], n => by show d = _; simp
  | x :: xs, 0 => by show x = _; simp
  | x :: xs, n + 1 => by show gD d xs n = _; rw [gD_eq d xs n]; simp
def setMany {α : Type} : List α → List (Nat × α) → List α
  | l, [] => l
  | l, (i, x) :: r => setMany (l.set i x) r
theorem setMany_length {α : Type} : ∀ (ps : List (Nat × α)) (l : List α), (setMany l ps).length = l.length
  | [], l => rfl
  | (i, x) :: r, l => by rw [setMany, setMany_length r]; simp
theorem setMany_out {α : Type} : ∀ (ps : List (Nat × α)) (l : List α) (j : Nat), (∀ p ∈ ps, p.1 ≠ j) → (setMany l ps)[j]? = l[j]?
  | [], l, j, h => rfl
  | (i, x) :: r, l, j, h => by
    rw [setMany, setMany_out r _ j (fun p hp => h p (by simp [hp])), List.getElem?_set_ne (h (i, x) (by simp))]
theorem setMany_in {α : Type} : ∀ (ids : List Nat) (xs : List α) (l : List α) (n j : Nat) (x : α), ids.Nodup → ids[n]? = some j → xs[n]? = some x → j < l.length → (setMany l (ids.zip xs))[j]? = some x
  | [], xs, l, n, j, x, hn, h1, h2, hl => by simp at h1
  | i :: ids, [], l, n, j, x, hn, h1, h2, hl => by simp at h2
  | i :: ids, y :: xs, l, n, j, x, hn, h1, h2, hl => by
    rw [List.zip_cons_cons, setMany]
    cases n with
    | zero =>
      simp at h1 h2; subst h1; subst h2
      rw [setMany_out _ _ _ (fun p hp e => (List.nodup_cons.1 hn).1 (by
        have := (List.of_mem_zip (a := p.1) (b := p.2) hp).1; rw [← e]; exact this)), List.getElem?_set_self hl]
    | succ n => exact setMany_in ids xs _ n j x (List.nodup_cons.1 hn).2 (by simpa using h1) (by simpa using h2) (by simpa using hl)

/-! The rule of a call that is handed places. -/
noncomputable def cellsB (st : St) (b : Nat) : List G := Option.rec (motive := fun _ => List G) [] (fun cs => cs) (gD none st.boxes b)
theorem cellsB_eq (st : St) (b : Nat) : cellsB st b = (st.boxes.getD b none).getD [] := by unfold cellsB; rw [gD_eq]; cases st.boxes.getD b none <;> rfl
noncomputable def seenB (st : St) (gs : List G) : List Nat :=
  fI (addNew [] (gs.flatMap refB)) fun b0 => fI (addNew b0 (b0.flatMap fun b => (cellsB st b).flatMap refB0)) fun b1 => addNew b1 (b1.flatMap fun b => (cellsB st b).flatMap refB0)
noncomputable def seenR (st : St) (gs : List G) (bs : List Nat) : List Nat := addNew [] (gs.flatMap refR ++ bs.flatMap fun b => (cellsB st b).flatMap refR0)
/-- The names that a call's new things get: the first that of the operation, the others spare ones. -/
def newIds (d N : Nat) : Nat → List Nat
  | 0 => []
  | n + 1 => d :: (List.range n).map (N + ·)
/-- A call's contract by places: what it answers, and what the variables and rows hold behind it. -/
def Fp (P : Program) (f : FuncId) (args : List G) (bs : List (List G)) (rs : List (List (List G))) (q : G × List (Option (List G)) × List (Option (List (List G)))) : Prop :=
  Fun P f args bs rs fun g bs' rs' => g = q.1 ∧ bs' = q.2.1 ∧ rs' = q.2.2
def idsOf (B : List Nat) (d N n : Nat) : List Nat := B ++ newIds d N (n - B.length)
def backOk (ids rids B R : List Nat) (st : St) (q : G × List (Option (List G)) × List (Option (List (List G)))) : Bool :=
  distinct ids && distinct rids && ids.all (fun b => Nat.blt b st.boxes.length) && rids.all (fun b => Nat.blt b st.rows.length) && Nat.beq ids.length q.2.1.length && Nat.beq rids.length q.2.2.length &&
      (ids.drop B.length).all (fun b => (st.boxes.getD b none).isNone) && (rids.drop R.length).all (fun b => (st.rows.getD b none).isNone)
def backSt (ids rids R : List Nat) (st : St) (q : G × List (Option (List G)) × List (Option (List (List G)))) : St :=
  let st1 := R.foldl (fun s k => s.killR k) st
  ⟨st1.slots, setMany st1.boxes (ids.zip (q.2.1.map fun o => o.map fun cs => cs.map (ren0 (fun i => ids[i]?) (fun i => rids[i]?)))), setMany st1.rows (rids.zip q.2.2)⟩
def backP (d : Nat) (B R : List Nat) (st : St) (q : G × List (Option (List G)) × List (Option (List (List G)))) (k : G → St → Prop) : Prop :=
  bif backOk (idsOf B d st.slots.length q.2.1.length) (idsOf R d st.slots.length q.2.2.length) B R st q then
    (backSt (idsOf B d st.slots.length q.2.1.length) (idsOf R d st.slots.length q.2.2.length) R st q).force fun st' => k (ren (fun i => (idsOf B d st.slots.length q.2.1.length)[i]?) (fun i => (idsOf R d st.slots.length q.2.2.length)[i]?) q.1) st'
  else False
noncomputable def fBs {β : Sort v} (l : List (List G)) : (List (List G) → β) → β := List.rec (motive := fun _ => (List (List G) → β) → β) (fun k => k []) (fun o _ ih k => fL o fun o' => ih fun os' => k (o' :: os')) l
theorem fBs_eq {β : Sort v} : ∀ (os : List (List G)) (k : List (List G) → β), fBs os k = k os
  | [], k => rfl
  | o :: os, k => by show fL o (fun o' => fBs os fun os' => k (o' :: os')) = _; rw [fL_eq, fBs_eq os]
def fRs {β : Sort v} : List (List (List G)) → (List (List (List G)) → β) → β
  | [], k => k []
  | o :: os, k => fRs os fun os' => k (o :: os')
theorem fRs_eq {β : Sort v} : ∀ (os : List (List (List G))) (k : List (List (List G)) → β), fRs os k = k os
  | [], k => rfl
  | o :: os, k => by rw [fRs, fRs_eq os]
def placeP (P : Program) (d : Nat) (f : FuncId) (gs : List G) (st : St) (k : G → St → Prop) : Prop :=
  fI (seenB st gs) fun B => fI (seenR st gs B) fun R =>
  bif B.all (fun b => (st.boxes.getD b none).isSome) && R.all (fun k => (st.rows.getD k none).isSome) && distinct B && distinct R then
    fS (gs.map (ren (pos B) (pos R))) fun args => fBs (B.map fun b => (cellsB st b).map (ren0 (pos B) (pos R))) fun bs => fRs (R.map fun k => (st.rows.getD k none).getD []) fun rs =>
      ∃ q, Fp P f args bs rs q ∧ backP d B R st q k
  else False
end Go.Proofs.YtfacmphjplablaaDoor.Av
namespace Go.Proofs.YtfacmphjplablaaDoor.Av
open Go Go.RowKit
set_option linter.unusedVariables false
set_option linter.unusedSimpArgs false

section
variable {P : Program} {C : Cx} {F : Fd} {st : St} {a : Act} {w : World}

theorem killRs : ∀ (R : List Nat) (st : St) (C : Cx), Inv C F st a w → ∃ C1, Inv C1 F (R.foldl (fun s k => s.killR k) st) a w ∧ C1.box = C.box ∧ C1.ex = C.ex ∧ (∀ k, k ∉ R → C1.row k = C.row k) ∧ (∀ k ∈ R, C1.row k = none) ∧
    (R.foldl (fun s k => s.killR k) st).boxes.length = st.boxes.length ∧ (R.foldl (fun s k => s.killR k) st).rows.length = st.rows.length ∧ (R.foldl (fun s k => s.killR k) st).slots.length = st.slots.length ∧
    (∀ b : Nat, st.boxes[b]? = some none → (R.foldl (fun s k => s.killR k) st).boxes[b]? = some none)
  | [], st, C, hi => ⟨C, hi, rfl, rfl, fun _ _ => rfl, fun _ h => by simp at h, rfl, rfl, rfl, fun _ h => h⟩
  | k :: R, st, C, hi => by
    obtain ⟨C1, h1, h2, h3, h4, h5, h6, h7, h8, h9⟩ := killRs R (st.killR k) (C.noR k) (hi.killR k)
    have hno : (C.noR k).row k = none := by show (if k = k then none else _) = _; rw [if_pos rfl]
    have hne : ∀ x, x ≠ k → (C.noR k).row x = C.row x := fun x hx => by show (if x = k then none else _) = _; rw [if_neg hx]
    refine ⟨C1, h1, h2, h3, fun x hx => ?_, fun x hx => ?_, ?_, ?_, ?_, fun b hb => ?_⟩
    · simp only [List.mem_cons, not_or] at hx
      rw [h4 x hx.2, hne x hx.1]
    · by_cases hm : x ∈ R
      · exact h5 x hm
      · rcases List.mem_cons.1 hx with e | e
        · subst e; rw [h4 x hm, hno]
        · exact absurd e hm
    · rw [List.foldl_cons, h6]; simp [St.killR]
    · rw [List.foldl_cons, h7]; simp [St.killR]
    · rw [List.foldl_cons, h8]; simp [St.killR]
    · rw [List.foldl_cons]; exact h9 b (by simp [St.killR, hb])

theorem boxes_some {b : Nat} (h : (st.boxes.getD b none).isSome = true) : st.boxes[b]? = some (some (cellsB st b)) := by
  rw [cellsB_eq]
  rw [List.getD_eq_getElem?_getD] at h ⊢
  cases hx : st.boxes[b]? with
  | none => rw [hx] at h; simp at h
  | some o => rw [hx] at h; cases o <;> simp_all
theorem rows_some {k : Nat} (h : (st.rows.getD k none).isSome = true) : st.rows[k]? = some (some ((st.rows.getD k none).getD [])) := by
  rw [List.getD_eq_getElem?_getD] at h ⊢
  cases hx : st.rows[k]? with
  | none => rw [hx] at h; simp at h
  | some o => rw [hx] at h; cases o <;> simp_all

theorem place_sound {d : Nat} {f : FuncId} {gs : List G} {k : G → St → Prop} (h : placeP P d f gs st k) (hi : Inv C F st a w) {vs : List Value} (hl : vs.length = gs.length)
    (hr : ∀ (i : Nat) g v, gs[i]? = some g → vs[i]? = some v → Rep C w g v) : hasBody P f = true ∧ Calls P f ⟨vs⟩ w fun e w' => ∃ v, e = .returned v ∧ After F k a v w' := by
  unfold placeP at h
  rw [fI_eq, fI_eq] at h
  generalize seenB st gs = B at h
  generalize seenR st gs B = R at h
  cases hc : B.all (fun b => (st.boxes.getD b none).isSome) && R.all (fun k => (st.rows.getD k none).isSome) && distinct B && distinct R with
  | false => rw [hc] at h; exact h.elim
  | true =>
  rw [hc] at h
  simp only [Bool.and_eq_true, List.all_eq_true] at hc
  obtain ⟨⟨⟨hB, hR⟩, dB⟩, dR⟩ := hc
  have nB := distinct_nodup dB
  have nR := distinct_nodup dR
  simp only [cond_true, fS_eq, fBs_eq, fRs_eq] at h
  obtain ⟨q, ⟨hb, hF⟩, h⟩ := h
  refine ⟨hb, ?_⟩
  let Cc : Cx := { box := fun i => (B[i]?).bind C.box, row := fun i => (R[i]?).bind C.row, ex := C.ex }
  let t0 : Nat → Prop := fun X => (∃ b ∈ B, C.box b = some X) ∨ ∃ k ∈ R, ∃ s sz n, C.row k = some (some (X, s, sz, n))
  have cbox : ∀ i b, B[i]? = some b → Cc.box i = C.box b := fun i b e => by show (B[i]?).bind _ = _; rw [e]; rfl
  have crow : ∀ i b, R[i]? = some b → Cc.row i = C.row b := fun i b e => by show (R[i]?).bind _ = _; rw [e]; rfl
  have cboxI : ∀ i X, Cc.box i = some X → ∃ b, B[i]? = some b ∧ C.box b = some X := fun i X e => by
    have e' : (B[i]?).bind C.box = some X := e
    cases hx : B[i]? with
    | none => rw [hx] at e'; cases e'
    | some b => rw [hx] at e'; exact ⟨b, rfl, e'⟩
  have crowI : ∀ i X, Cc.row i = some X → ∃ b, R[i]? = some b ∧ C.row b = some X := fun i X e => by
    have e' : (R[i]?).bind C.row = some X := e
    cases hx : R[i]? with
    | none => rw [hx] at e'; cases e'
    | some b => rw [hx] at e'; exact ⟨b, rfl, e'⟩
  have lead : Leads C Cc w w (pos B) (pos R) := ⟨fun b i X e hX => by rw [cbox i b (pos_some e)]; exact hX, fun b i X e hX => by rw [crow i b (pos_some e)]; exact hX, Keeps.refl _ _, fun _ _ h => h⟩
  have hmem : Mem Cc w ((B.map fun b => (cellsB st b).map (ren0 (pos B) (pos R))).map some) ((R.map fun k => (st.rows.getD k none).getD []).map some) := by
    refine ⟨fun i cs hx => ?_, fun i xs hx => ?_, fun i X hX => ?_, fun i X hX => ?_, fun i i' X h1 h2 => ?_, fun i i' X s z n s' z' n' h1 h2 => ?_, fun i j X s z n h1 h2 => ?_, hi.mem.lt⟩
    · simp only [List.getElem?_map, Option.map_eq_some_iff] at hx
      obtain ⟨_, ⟨b, hbi, rfl⟩, e⟩ := hx
      cases e
      obtain ⟨X, us, T, k1, k2, k3, k4, k5, k6⟩ := hi.mem.box b _ (boxes_some (hB b (List.mem_of_getElem? hbi)))
      refine ⟨X, us, T, by rw [cbox i b hbi]; exact k1, k2, k3, by simp [k4], k5, fun j g v hg hv => ?_⟩
      rw [List.getElem?_map] at hg
      obtain ⟨g0, hg0, rfl⟩ := Option.map_eq_some_iff.1 hg
      obtain ⟨q1, q2⟩ := k6 j g0 v hg0 hv
      exact ⟨cell_ren0 q1 _ _, q2.ren0 lead q1⟩
    · simp only [List.getElem?_map, Option.map_eq_some_iff] at hx
      obtain ⟨_, ⟨b, hbi, rfl⟩, e⟩ := hx
      cases e
      rcases hi.mem.row b _ (rows_some (hR b (List.mem_of_getElem? hbi))) with k1 | ⟨X, s, z, n, us, T, fz, k1, k2, k3, k4, k5, k6, k6b, k7, k8⟩
      · exact .inl ⟨by rw [crow i b hbi]; exact k1.1, k1.2⟩
      · exact .inr ⟨X, s, z, n, us, T, fz, by rw [crow i b hbi]; exact k1, k2, k3, k4, k5, k6, k6b, k7, fun i r j g v a1 a2 a3 => (k8 i r j g v a1 a2 a3).keep0 ((k7 r (List.mem_of_getElem? a1)).2 g (List.mem_of_getElem? a2)) (Keeps.refl _ _) (fun _ _ h => h)⟩
    · obtain ⟨b, hbi, _⟩ := cboxI i X hX
      exact ⟨_, by simp only [List.getElem?_map, hbi, Option.map_some]; rfl⟩
    · obtain ⟨b, hbi, _⟩ := crowI i X hX
      exact ⟨_, by simp only [List.getElem?_map, hbi, Option.map_some]; rfl⟩
    · obtain ⟨b, hbi, e1⟩ := cboxI i X h1
      obtain ⟨b', hbi', e2⟩ := cboxI i' X h2
      have := hi.mem.bb b b' X e1 e2
      subst this
      exact (List.getElem?_inj (List.getElem?_eq_some_iff.1 hbi).1 nB).1 (hbi.trans hbi'.symm)
    · obtain ⟨b, hbi, e1⟩ := crowI i _ h1
      obtain ⟨b', hbi', e2⟩ := crowI i' _ h2
      have := hi.mem.rr b b' X s z n s' z' n' e1 e2
      subst this
      exact (List.getElem?_inj (List.getElem?_eq_some_iff.1 hbi).1 nR).1 (hbi.trans hbi'.symm)
    · obtain ⟨b, hbi, e1⟩ := cboxI i X h1
      obtain ⟨b', hbi', e2⟩ := crowI j _ h2
      exact hi.mem.br b b' X s z n e1 e2
  have t0ex : ∀ X, t0 X → C.ex X := fun X hX => by
    rcases hX with ⟨b, _, e⟩ | ⟨k', _, s, z, n, e⟩
    · exact hi.mem.ltB e
    · exact hi.mem.ltR e
  have t0F : ∀ X, t0 X → F.t0 X ∨ F.w0.heap.size ≤ X := fun X hX => by
    rcases hX with ⟨b, _, e⟩ | ⟨k', _, s, z, n, e⟩
    · exact hi.tb b X e
    · exact hi.tr k' X s z n e
  refine (hF Cc w t0 vs (by simp [hl]) (fun i g v hg hv => ?_) hmem t0ex (fun i X hX => ?_) (fun i X s z n hX => ?_) hi.fixed).mono fun e w' he => ?_
  · rw [List.getElem?_map] at hg
    obtain ⟨g0, hg0, rfl⟩ := Option.map_eq_some_iff.1 hg
    exact (hr i g0 v hg0 hv).ren lead
  · obtain ⟨b, hbi, e1⟩ := cboxI i X hX
    exact .inl ⟨b, List.mem_of_getElem? hbi, e1⟩
  · obtain ⟨b, hbi, e1⟩ := crowI i _ hX
    exact .inr ⟨b, List.mem_of_getElem? hbi, s, z, n, e1⟩
  obtain ⟨v, C', g, bs', rs', rfl, ⟨rfl, rfl, rfl⟩, hRep, hM, hE⟩ := he
  refine ⟨v, rfl, ?_⟩
  unfold backP at h
  have hidB : (idsOf B d st.slots.length q.2.1.length).take B.length = B := by unfold idsOf; simp
  have hidR : (idsOf R d st.slots.length q.2.2.length).take R.length = R := by unfold idsOf; simp
  generalize idsOf B d st.slots.length q.2.1.length = ids at h hidB
  generalize idsOf R d st.slots.length q.2.2.length = rids at h hidR
  cases hc : backOk ids rids B R st q with
  | false => rw [hc] at h; exact h.elim
  | true =>
  rw [hc] at h
  simp only [cond_true, St.force_eq] at h
  unfold backOk at hc
  simp only [Bool.and_eq_true, List.all_eq_true] at hc
  obtain ⟨⟨⟨⟨⟨⟨⟨c1, c2⟩, c3⟩, c4⟩, c5⟩, c6⟩, c7⟩, c8⟩ := hc
  have nI := distinct_nodup c1
  have nJ := distinct_nodup c2
  have c5 := Nat.eq_of_beq_eq_true c5
  have c6 := Nat.eq_of_beq_eq_true c6
  have c3 : ∀ b ∈ ids, b < st.boxes.length := fun b hb => Nat.le_of_ble_eq_true (c3 b hb)
  have c4 : ∀ b ∈ rids, b < st.rows.length := fun b hb => Nat.le_of_ble_eq_true (c4 b hb)
  obtain ⟨C1, i1, i2, i3, i4, i5, i6, i7, i8, _⟩ := killRs (F := F) (a := a) (w := w) R st C hi
  -- which of the names are old ones
  have newB : ∀ (i b : Nat), ids[i]? = some b → (B[i]? = some b) ∨ C.box b = none := fun i b e => by
    by_cases hlt : i < B.length
    · left
      have := congrArg (fun l : List Nat => l[i]?) hidB
      simp only [List.getElem?_take, hlt, if_true] at this
      rw [← this]; exact e
    · right
      have hm : b ∈ ids.drop B.length := List.mem_iff_getElem?.2 ⟨i - B.length, by rw [List.getElem?_drop]; rw [show B.length + (i - B.length) = i from by omega]; exact e⟩
      have hn := c7 b hm
      cases hx : C.box b with
      | none => rfl
      | some X =>
        obtain ⟨cs, hcs⟩ := hi.mem.domB b X hx
        rw [List.getD_eq_getElem?_getD, hcs] at hn; simp at hn
  have newR : ∀ (i b : Nat), rids[i]? = some b → (R[i]? = some b) ∨ C.row b = none := fun i b e => by
    by_cases hlt : i < R.length
    · left
      have := congrArg (fun l : List Nat => l[i]?) hidR
      simp only [List.getElem?_take, hlt, if_true] at this
      rw [← this]; exact e
    · right
      have hm : b ∈ rids.drop R.length := List.mem_iff_getElem?.2 ⟨i - R.length, by rw [List.getElem?_drop]; rw [show R.length + (i - R.length) = i from by omega]; exact e⟩
      have hn := c8 b hm
      cases hx : C.row b with
      | none => rfl
      | some X =>
        obtain ⟨cs, hcs⟩ := hi.mem.domR b X hx
        rw [List.getD_eq_getElem?_getD, hcs] at hn; simp at hn
  have inB : ∀ (i b : Nat), B[i]? = some b → ids[i]? = some b := fun i b e => by
    have := congrArg (fun l : List Nat => l[i]?) hidB
    simp only [List.getElem?_take] at this
    rw [if_pos (List.getElem?_eq_some_iff.1 e).1] at this
    rw [this]; exact e
  have inR : ∀ (i b : Nat), R[i]? = some b → rids[i]? = some b := fun i b e => by
    have := congrArg (fun l : List Nat => l[i]?) hidR
    simp only [List.getElem?_take] at this
    rw [if_pos (List.getElem?_eq_some_iff.1 e).1] at this
    rw [this]; exact e
  let C2 : Cx := { box := fun b => match pos ids b with | some i => C'.box i | none => C1.box b, row := fun b => match pos rids b with | some i => C'.row i | none => C1.row b, ex := C'.ex }
  have b2 : ∀ (i b : Nat), ids[i]? = some b → C2.box b = C'.box i := fun i b e => by show (match pos ids b with | some i => _ | none => _) = _; rw [pos_at nI e]
  have r2 : ∀ (i b : Nat), rids[i]? = some b → C2.row b = C'.row i := fun i b e => by show (match pos rids b with | some i => _ | none => _) = _; rw [pos_at nJ e]
  have b3 : ∀ b, b ∉ ids → C2.box b = C.box b := fun b hb => by
    show (match pos ids b with | some i => _ | none => _) = _
    cases hp : pos ids b with
    | none => rw [← i2]
    | some i => exact absurd (List.mem_of_getElem? (pos_some hp)) hb
  have r3 : ∀ b, b ∉ rids → C2.row b = C1.row b := fun b hb => by
    show (match pos rids b with | some i => _ | none => _) = _
    cases hp : pos rids b with
    | none => rfl
    | some i => exact absurd (List.mem_of_getElem? (pos_some hp)) hb
  have rC : ∀ b, b ∉ rids → C1.row b = C.row b := fun b hb => i4 b (fun hR' => by
    obtain ⟨j, hj⟩ := List.mem_iff_getElem?.1 hR'
    exact hb (List.mem_of_getElem? (inR j b hj)))
  have bcase : ∀ b : Nat, (∃ i : Nat, ids[i]? = some b) ∨ b ∉ ids := fun b => by
    by_cases hm : b ∈ ids
    · exact .inl (List.mem_iff_getElem?.1 hm)
    · exact .inr hm
  have rcase : ∀ b : Nat, (∃ i : Nat, rids[i]? = some b) ∨ b ∉ rids := fun b => by
    by_cases hm : b ∈ rids
    · exact .inl (List.mem_iff_getElem?.1 hm)
    · exact .inr hm
  -- what the call left as it was
  have same : ∀ X, X < w.heap.size → ¬ t0 X → w'.heap[X]? = w.heap[X]? := hE.fr.block
  have keeps : Keeps C.ex w w' := ⟨hE.fr.size, fun X hX hn => same X hX (fun h => hn (t0ex X h))⟩
  have exs : ∀ X, X < w.heap.size → ¬ C.ex X → ¬ C'.ex X := fun X hX hn hx => by
    rcases hE.exn X hx with h | h
    · exact hn h
    · omega
  have oldbox : ∀ b X, C.box b = some X → C2.box b = some X := fun b X hX => by
    rcases bcase b with ⟨i, e⟩ | e
    · rcases newB i b e with e' | e'
      · rw [b2 i b e]; exact hE.box i X (by rw [cbox i b e']; exact hX)
      · rw [e'] at hX; cases hX
    · rw [b3 b e]; exact hX
  have oldrow : ∀ b r, C1.row b = some r → C2.row b = some r := fun b r hr' => by
    rcases rcase b with ⟨i, e⟩ | e
    · rcases newR i b e with e' | e'
      · rw [i5 b (List.mem_of_getElem? e')] at hr'; cases hr'
      · by_cases hm : b ∈ R
        · rw [i5 b hm] at hr'; cases hr'
        · rw [i4 b hm, e'] at hr'; cases hr'
    · rw [r3 b e]; exact hr'
  have keep1 : ∀ g v, Rep C1 w g v → Rep C2 w' g v := fun g v hg => hg.keep (by rw [i3]; exact keeps) (fun X hX hn => by rw [i3] at hn; exact exs X hX hn) (fun b X hX => oldbox b X (by rw [← i2]; exact hX)) oldrow
  have lead2 : Leads C' C2 w' w' (fun i => ids[i]?) (fun i => rids[i]?) := ⟨fun i b X e hX => by rw [b2 i b e]; exact hX, fun i b X e hX => by rw [r2 i b e]; exact hX, Keeps.refl _ _, fun _ _ h => h⟩
  -- a name outside stands for a block that the call did not have
  have outB : ∀ b X, b ∉ ids → C.box b = some X → ¬ t0 X := fun b X hb hX ht => by
    rcases ht with ⟨b', hb', e⟩ | ⟨k', _, s, z, n, e⟩
    · have := hi.mem.bb b b' X hX e
      subst this
      obtain ⟨j, hj⟩ := List.mem_iff_getElem?.1 hb'
      exact hb (List.mem_of_getElem? (inB j b hj))
    · exact hi.mem.br b k' X s z n hX e
  have outR : ∀ b X s z n, b ∉ rids → C.row b = some (some (X, s, z, n)) → ¬ t0 X := fun b X s z n hb hX ht => by
    rcases ht with ⟨b', hb', e⟩ | ⟨k', hk', s', z', n', e⟩
    · exact hi.mem.br b' b X s z n e hX
    · have := hi.mem.rr b k' X s z n s' z' n' hX e
      subst this
      obtain ⟨j, hj⟩ := List.mem_iff_getElem?.1 hk'
      exact hb (List.mem_of_getElem? (inR j b hj))
  have domI : ∀ i X, C'.box i = some X → i < ids.length := fun i X e => by
    obtain ⟨cs, hcs⟩ := hM.domB i X e
    rw [c5]; exact (List.getElem?_eq_some_iff.1 hcs).1
  have domJ : ∀ i X, C'.row i = some X → i < rids.length := fun i X e => by
    obtain ⟨cs, hcs⟩ := hM.domR i X e
    rw [c6]; exact (List.getElem?_eq_some_iff.1 hcs).1
  refine ⟨C2, _, _, h, ⟨hi.nd, ?_, fun i g v hg hv => ?_, ⟨fun b cs hx => ?_, fun b xs hx => ?_, fun b X hX => ?_, fun b r hr' => ?_, fun b b' X e1 e2 => ?_, fun b b' X s z n s' z' n' e1 e2 => ?_, fun b j X s z n e1 e2 => ?_, hM.lt⟩, ?_, fun X hX => hE.ex X (hi.ex0 X hX), fun X hX => ?_, hi.t0, fun b X hX => ?_, fun b X s z n hX => ?_, fun b X hX => ?_⟩, hRep.ren lead2⟩
  · show a.tmps.size = (R.foldl (fun s k => s.killR k) st).slots.length
    rw [i8]; exact hi.sz
  · exact keep1 g v (i1.slots i g v hg hv)
  · -- a variable
    change (setMany (R.foldl (fun s k => s.killR k) st).boxes _)[b]? = _ at hx
    rcases bcase b with ⟨i, e⟩ | e
    · have hlt : i < q.2.1.length := by rw [← c5]; exact (List.getElem?_eq_some_iff.1 e).1
      rw [setMany_in ids _ _ i b _ nI e (by rw [List.getElem?_map, List.getElem?_eq_getElem hlt]; rfl) (by rw [i6]; exact c3 b (List.mem_of_getElem? e))] at hx
      obtain ⟨cs0, hcs0, e0⟩ := Option.map_eq_some_iff.1 (Option.some.inj hx)
      subst e0
      obtain ⟨X, us, T, k1, k2, k3, k4, k5, k6⟩ := hM.box i cs0 (by rw [List.getElem?_eq_getElem hlt, hcs0])
      refine ⟨X, us, T, by rw [b2 i b e]; exact k1, k2, k3, by simp [k4], k5, fun j g v hg hv => ?_⟩
      rw [List.getElem?_map] at hg
      obtain ⟨g0, hg0, rfl⟩ := Option.map_eq_some_iff.1 hg
      obtain ⟨q1, q2⟩ := k6 j g0 v hg0 hv
      exact ⟨cell_ren0 q1 _ _, q2.ren0 lead2 q1⟩
    · rw [setMany_out _ _ _ (fun p hp e' => e (by rw [← e']; exact (List.of_mem_zip (a := p.1) (b := p.2) hp).1))] at hx
      obtain ⟨X, us, T, k1, k2, k3, k4, k5, k6⟩ := i1.mem.box b cs hx
      rw [i2] at k1
      refine ⟨X, us, T, by rw [b3 b e]; exact k1, hE.ex X (by rw [i3] at k2; exact k2), by rw [same X (hi.mem.lt X (hi.mem.ltB k1)) (outB b X e k1)]; exact k3, k4, k5, fun j g v hg hv => ?_⟩
      obtain ⟨q1, q2⟩ := k6 j g v hg hv
      exact ⟨q1, keep1 g v q2⟩
  · -- a row
    change (setMany (R.foldl (fun s k => s.killR k) st).rows _)[b]? = _ at hx
    rcases rcase b with ⟨i, e⟩ | e
    · have hlt : i < q.2.2.length := by rw [← c6]; exact (List.getElem?_eq_some_iff.1 e).1
      rw [setMany_in rids _ _ i b _ nJ e (List.getElem?_eq_getElem hlt) (by rw [i7]; exact c4 b (List.mem_of_getElem? e))] at hx
      rcases hM.row i xs (by rw [List.getElem?_eq_getElem hlt]; exact hx) with k1 | ⟨X, s, z, n, us, T, fz, k1, k2, k3, k4, k5, k6, k6b, k7, k8⟩
      · exact .inl ⟨by rw [r2 i b e]; exact k1.1, k1.2⟩
      · exact .inr ⟨X, s, z, n, us, T, fz, by rw [r2 i b e]; exact k1, k2, k3, k4, k5, k6, k6b, k7, fun i r j g v a1 a2 a3 => (k8 i r j g v a1 a2 a3).keep0 ((k7 r (List.mem_of_getElem? a1)).2 g (List.mem_of_getElem? a2)) (Keeps.refl _ _) (fun _ _ h => h)⟩
    · rw [setMany_out _ _ _ (fun p hp e' => e (by rw [← e']; exact (List.of_mem_zip (a := p.1) (b := p.2) hp).1))] at hx
      rcases i1.mem.row b xs hx with k1 | ⟨X, s, z, n, us, T, fz, k1, k2, k3, k4, k5, k6, k6b, k7, k8⟩
      · exact .inl ⟨by rw [r3 b e]; exact k1.1, k1.2⟩
      · have k1' : C.row b = some (some (X, s, z, n)) := by rw [← rC b e]; exact k1
        exact .inr ⟨X, s, z, n, us, T, fz, by rw [r3 b e]; exact k1, hE.ex X (by rw [i3] at k2; exact k2), by rw [same X (hi.mem.lt X (hi.mem.ltR k1')) (outR b X s z n e k1')]; exact k3, k4, k5, k6, k6b, k7, fun i r j g v a1 a2 a3 =>
          keep1 g v (k8 i r j g v a1 a2 a3)⟩
  · rcases bcase b with ⟨i, e⟩ | e
    · rw [b2 i b e] at hX
      obtain ⟨cs, hcs⟩ := hM.domB i X hX
      refine ⟨cs.map (ren0 (fun i => ids[i]?) (fun i => rids[i]?)), ?_⟩
      show (setMany (R.foldl (fun s k => s.killR k) st).boxes _)[b]? = _
      exact setMany_in ids _ _ i b _ nI e (by rw [List.getElem?_map, hcs]; rfl) (by rw [i6]; exact c3 b (List.mem_of_getElem? e))
    · rw [b3 b e, ← i2] at hX
      obtain ⟨cs, hcs⟩ := i1.mem.domB b X hX
      refine ⟨cs, ?_⟩
      show (setMany (R.foldl (fun s k => s.killR k) st).boxes _)[b]? = _
      rw [setMany_out _ _ _ (fun p hp e' => e (by rw [← e']; exact (List.of_mem_zip (a := p.1) (b := p.2) hp).1))]; exact hcs
  · rcases rcase b with ⟨i, e⟩ | e
    · rw [r2 i b e] at hr'
      obtain ⟨cs, hcs⟩ := hM.domR i r hr'
      refine ⟨cs, ?_⟩
      show (setMany (R.foldl (fun s k => s.killR k) st).rows _)[b]? = _
      exact setMany_in rids _ _ i b _ nJ e hcs (by rw [i7]; exact c4 b (List.mem_of_getElem? e))
    · rw [r3 b e] at hr'
      obtain ⟨cs, hcs⟩ := i1.mem.domR b r hr'
      refine ⟨cs, ?_⟩
      show (setMany (R.foldl (fun s k => s.killR k) st).rows _)[b]? = _
      rw [setMany_out _ _ _ (fun p hp e' => e (by rw [← e']; exact (List.of_mem_zip (a := p.1) (b := p.2) hp).1))]; exact hcs
  · -- two variables in one block
    have cross : ∀ (i b b' : Nat), ids[i]? = some b → b' ∉ ids → C'.box i = some X → C.box b' = some X → False := fun i b b' e e' h1 h2 => by
      rcases hE.tb i X h1 with ht | ht
      · exact outB b' X e' h2 ht
      · have := hi.mem.lt X (hi.mem.ltB h2); omega
    rcases bcase b with ⟨i, e⟩ | e <;> rcases bcase b' with ⟨i', e'⟩ | e'
    · rw [b2 i b e] at e1; rw [b2 i' b' e'] at e2
      have := hM.bb i i' X e1 e2
      subst this
      rw [e] at e'; exact Option.some.inj e'
    · rw [b2 i b e] at e1; rw [b3 b' e'] at e2; exact (cross i b b' e e' e1 e2).elim
    · rw [b3 b e] at e1; rw [b2 i' b' e'] at e2; exact (cross i' b' b e' e e2 e1).elim
    · rw [b3 b e] at e1; rw [b3 b' e'] at e2; exact hi.mem.bb b b' X e1 e2
  · have cross : ∀ (i b b' s z n s' z' n' : Nat), rids[i]? = some b → b' ∉ rids → C'.row i = some (some (X, s, z, n)) → C.row b' = some (some (X, s', z', n')) → False := fun i b b' s z n s' z' n' e e' h1 h2 => by
      rcases hE.tr i X s z n h1 with ht | ht
      · exact outR b' X _ _ _ e' h2 ht
      · have := hi.mem.lt X (hi.mem.ltR h2); omega
    rcases rcase b with ⟨i, e⟩ | e <;> rcases rcase b' with ⟨i', e'⟩ | e'
    · rw [r2 i b e] at e1; rw [r2 i' b' e'] at e2
      have := hM.rr i i' X _ _ _ _ _ _ e1 e2
      subst this
      rw [e] at e'; exact Option.some.inj e'
    · rw [r2 i b e] at e1; rw [r3 b' e', rC b' e'] at e2; exact (cross i b b' _ _ _ _ _ _ e e' e1 e2).elim
    · rw [r3 b e, rC b e] at e1; rw [r2 i' b' e'] at e2; exact (cross i' b' b _ _ _ _ _ _ e' e e2 e1).elim
    · rw [r3 b e, rC b e] at e1; rw [r3 b' e', rC b' e'] at e2; exact hi.mem.rr b b' X _ _ _ _ _ _ e1 e2
  · rcases bcase b with ⟨i, e⟩ | e <;> rcases rcase j with ⟨i', e'⟩ | e'
    · rw [b2 i b e] at e1; rw [r2 i' j e'] at e2
      exact hM.br i i' X _ _ _ e1 e2
    · rw [b2 i b e] at e1; rw [r3 j e', rC j e'] at e2
      rcases hE.tb i X e1 with ht | ht
      · exact outR j X _ _ _ e' e2 ht
      · have := hi.mem.lt X (hi.mem.ltR e2); omega
    · rw [b3 b e] at e1; rw [r2 i' j e'] at e2
      rcases hE.tr i' X _ _ _ e2 with ht | ht
      · exact outB b X e e1 ht
      · have := hi.mem.lt X (hi.mem.ltB e1); omega
    · rw [b3 b e] at e1; rw [r3 j e', rC j e'] at e2; exact hi.mem.br b j X _ _ _ e1 e2
  · exact ⟨hE.fr.os.trans hi.fr.os, hE.fr.tape.trans hi.fr.tape, hE.fr.output.trans hi.fr.output, Nat.le_trans hi.fr.size hE.fr.size, fun X hX hn =>
      (same X (by have := hi.fr.size; omega) (fun ht => (t0F X ht).elim hn (fun h => by omega))).trans (hi.fr.block X hX hn)⟩
  · rcases hE.exn X hX with h1 | h1
    · exact hi.exn X h1
    · exact .inr (by have := hi.fr.size; omega)
  · rcases bcase b with ⟨i, e⟩ | e
    · rw [b2 i b e] at hX
      rcases hE.tb i X hX with ht | ht
      · exact t0F X ht
      · exact .inr (by have := hi.fr.size; omega)
    · rw [b3 b e] at hX; exact hi.tb b X hX
  · rcases rcase b with ⟨i, e⟩ | e
    · rw [r2 i b e] at hX
      rcases hE.tr i X s z n hX with ht | ht
      · exact t0F X ht
      · exact .inr (by have := hi.fr.size; omega)
    · rw [r3 b e, rC b e] at hX; exact hi.tr b X s z n hX
  · obtain ⟨h1, h2⟩ := hi.fb b X hX
    refine ⟨oldbox b X h1, ?_⟩
    show (R.foldl (fun s k => s.killR k) st).slots.length + 8 ≤ b
    rw [i8]; exact h2
end
end Go.Proofs.YtfacmphjplablaaDoor.Av
namespace Go.Proofs.YtfacmphjplablaaDoor.Av
open Go Go.RowKit
set_option linter.unusedVariables false
set_option linter.unusedSimpArgs false

/-! A result: own rows are told as values. -/
def dn1 (st : St) (g : G) (k : G → Prop) : Prop :=
  match g with
  | .own kk off len => match st.rows.getD kk none with
    | some xs => off + len ≤ xs.length ∧ k (.sl ((xs.drop off).take len))
    | none => False
  | .nils => k (.sl [])
  | .emp => k (.sl [])
  | .ne => k (.sl [])
  | g => k g
def dnL (st : St) (gs : List G) : (List G → Prop) → Prop :=
  List.rec (motive := fun _ => (List G → Prop) → Prop) (fun k => k []) (fun g _ ih k => dn1 st g fun g' => ih fun gs' => k (g' :: gs')) gs
def dn2 (st : St) (g : G) (k : G → Prop) : Prop :=
  match g with
  | .agg gs => dnL st gs fun gs' => k (.agg gs')
  | g => dn1 st g k
def dnT (st : St) (gs : List G) : (List G → Prop) → Prop :=
  List.rec (motive := fun _ => (List G → Prop) → Prop) (fun k => k []) (fun g _ ih k => dn2 st g fun g' => ih fun gs' => k (g' :: gs')) gs
def dn (st : St) (g : G) (k : G → Prop) : Prop :=
  match g with
  | .tup gs => dnT st gs fun gs' => k (.tup gs')
  | g => dn2 st g k

section
variable {C : Cx} {F : Fd} {st : St} {a : Act} {w : World}
def Cx.out (ex : Nat → Prop) : Cx := { box := fun _ => none, row := fun _ => none, ex := ex }
theorem dn1_sound (hi : Inv C F st a w) {Co : Cx} (hx1 : ∀ B, B < w.heap.size → ¬ C.ex B → ¬ Co.ex B) (hx2 : ∀ k B s sz n, C.row k = some (some (B, s, sz, n)) → ¬ Co.ex B) {g : G} {k : G → Prop} (h : dn1 st g k) (hc : g.cell = true) {v : Value} (hr : Rep C w g v) : ∃ g', k g' ∧ (g'.closed0 = true → Rep Co w g' v) ∧ (g'.closed0 = false → g' = g) := by
  have std : ∀ g, k g → Rep C w g v → ∃ g', k g' ∧ (g'.closed0 = true → Rep Co w g' v) ∧ (g'.closed0 = false → g' = g) := fun g h hr =>
    ⟨g, h, fun h0 => hr.keep0 h0 (Keeps.refl _ _) hx1, fun _ => rfl⟩
  unfold dn1 at h
  split at h
  · rename_i kk off len
    split at h
    · rename_i xs hxs
      obtain ⟨hle, h⟩ := h
      refine ⟨_, h, fun _ => ?_, fun h0 => by simp [G.closed0] at h0⟩
      have hlen : ((xs.drop off).take len).length = len := by simp; omega
      cases hr with
      | ownnil _ _ hk => simp; exact .slnil _ _ (fun _ => rfl)
      | own _ _ _ B s sz n A hk ho hA =>
        rcases hi.mem.row kk xs (rowsOf hxs) with k1 | ⟨B', s', z', n', vs, T, fz, k1, k2, k3, k4, k5, k6, k6b, k7, k8⟩
        · rw [hk] at k1; cases k1.1
        · rw [hk] at k1; cases k1
          have hnx : ¬ Co.ex B := hx2 kk B s sz n hk
          have hget : ∀ (i : Nat) r, ((xs.drop off).take len)[i]? = some r → xs[off + i]? = some r := fun i r hir => by
            rw [List.getElem?_take] at hir
            split at hir
            · rwa [List.getElem?_drop] at hir
            · cases hir
          have hmem : ∀ r ∈ (xs.drop off).take len, r ∈ xs := fun r hr => List.mem_of_mem_drop (List.mem_of_mem_take hr)
          have main : ∀ (A' : Addr), A' = ⟨B, s + off * sz, none⟩ → Rep Co w (.sl ((xs.drop off).take len)) (.slice (some A') ((xs.drop off).take len).length (n - off)) := fun A' e => by
            subst e
            refine .sl _ ⟨B, s + off * sz, none⟩ (n - off) sz (fun i j => vs.getD (s + (off + i) * sz + j) undef) rfl (hi.mem.lt B k2) hnx (by rw [hlen]; omega) (fun r hr => (k7 r (hmem r hr)).1) (fun r hr => (k7 r (hmem r hr)).2) (fun i r j g h1 h2 => ?_) (fun i r j g h1 h2 => ?_)
            all_goals
              have hrow := hget i r h1
              have hj0 : j < sz := by rw [← (k7 r (List.mem_of_getElem? hrow)).1]; exact (List.getElem?_eq_some_iff.1 h2).1
              have hlt : off + i < xs.length := (List.getElem?_eq_some_iff.1 hrow).1
              have hj : s + (off + i) * sz + j < vs.length := by
                have := mul_lt (show off + i < n by omega) hj0; omega
              have hv : vs[s + (off + i) * sz + j]? = some (vs.getD (s + (off + i) * sz + j) undef) := by rw [List.getD_eq_getElem?_getD, List.getElem?_eq_getElem hj]; rfl
            · show w.cell? ⟨B, s + off * sz + i * sz + j, none⟩ = _
              rw [show s + off * sz + i * sz + j = s + (off + i) * sz + j from by rw [Nat.add_mul]; omega, cell_of_block k3]
              exact hv
            · exact (k8 (off + i) r j g _ hrow h2 hv).keep0 ((k7 r (List.mem_of_getElem? hrow)).2 g (List.mem_of_getElem? h2)) (Keeps.refl _ _) hx1
          by_cases hoff : off < n
          · have := main A (hA.1 hoff)
            rw [hlen] at this; exact this
          · obtain rfl : len = 0 := by omega
            have e : (xs.drop off).take 0 = [] := by simp
            rw [e]
            exact .sl [] A (n - off) sz (fun _ _ => undef) hA.2.2 (by rw [hA.2.1]; exact hi.mem.lt B k2) (by rw [hA.2.1]; exact hnx) (by simp) (fun r hr => by cases hr) (fun r hr => by cases hr) (fun i r j g hi => by cases hi) (fun i r j g hi => by cases hi)
    · exact h.elim
  · refine ⟨_, h, fun _ => ?_, fun h0 => by simp [G.closed0] at h0⟩
    cases hr; exact .slnil _ _ (fun _ => rfl)
  · refine ⟨_, h, fun _ => ?_, fun h0 => by simp [G.closed0] at h0⟩
    cases hr; exact .slnil _ _ (fun _ => rfl)
  · refine ⟨_, h, fun _ => ?_, fun h0 => by simp [G.closed0] at h0⟩
    cases hr; exact .slnil _ _ (fun e => by cases e)
  · exact std _ h hr
theorem dnL_sound (hi : Inv C F st a w) {Co : Cx} (hx1 : ∀ B, B < w.heap.size → ¬ C.ex B → ¬ Co.ex B) (hx2 : ∀ k B s sz n, C.row k = some (some (B, s, sz, n)) → ¬ Co.ex B) : ∀ (gs : List G) (k : List G → Prop) (vs : List Value), dnL st gs k → (∀ g ∈ gs, g.cell = true) → vs.length = gs.length → (∀ (i : Nat) g v, gs[i]? = some g → vs[i]? = some v → Rep C w g v) →
    ∃ gs', k gs' ∧ gs'.length = gs.length ∧ ∀ (i : Nat) g v, gs'[i]? = some g → vs[i]? = some v → g.closed0 = true → Rep Co w g v
  | [], k, vs, h, hc, hl, hr => ⟨[], h, rfl, fun i g v hg => by simp at hg⟩
  | g :: gs, k, [], h, hc, hl, hr => by simp at hl
  | g :: gs, k, v :: vs, h, hc, hl, hr => by
    have h : dn1 st g fun g' => dnL st gs fun gs' => k (g' :: gs') := h
    obtain ⟨g', h1, h2, _⟩ := dn1_sound hi hx1 hx2 (g := g) h (hc g (by simp)) (hr 0 g v rfl rfl)
    obtain ⟨gs', k1, k2, k3⟩ := dnL_sound hi hx1 hx2 gs _ vs h1 (fun g hg => hc g (by simp [hg])) (by simpa using hl) (fun i g v hg hv => hr (i + 1) g v (by simpa using hg) (by simpa using hv))
    refine ⟨g' :: gs', k1, by simp [k2], fun i q u hg hv h0 => ?_⟩
    cases i with
    | zero => simp at hg hv; subst hg; subst hv; exact h2 h0
    | succ i => exact k3 i q u (by simpa using hg) (by simpa using hv) h0
theorem dn2_sound (hi : Inv C F st a w) {Co : Cx} (hx1 : ∀ B, B < w.heap.size → ¬ C.ex B → ¬ Co.ex B) (hx2 : ∀ k B s sz n, C.row k = some (some (B, s, sz, n)) → ¬ Co.ex B) {g : G} {k : G → Prop} (h : dn2 st g k) {v : Value} (hr : Rep C w g v) : ∃ g', k g' ∧ (g'.closed = true → Rep Co w g' v) ∧ (∀ gs, g' = .tup gs → ∃ gs, g = .tup gs) := by
  cases g with
  | agg gs =>
    obtain ⟨vs, rfl, ⟨h1, h2, h3⟩, h4⟩ := hr.agg_inv
    obtain ⟨gs', k1, k2, k3⟩ := dnL_sound hi hx1 hx2 gs _ vs h h4 h1 h3
    refine ⟨_, k1, fun h0 => ?_, fun _ h => by cases h⟩
    simp only [G.closed, List.all_eq_true] at h0
    exact .agg gs' vs (by rw [h1, k2]) (fun g hg => closed0_cell (h0 g hg)) h2 (fun i g v hg hv => k3 i g v hg hv (h0 g (List.mem_of_getElem? hg)))
  | tup gs => exact ⟨_, h, (fun h0 => by simp [G.closed, G.closed0] at h0), fun _ _ => ⟨_, rfl⟩⟩
  | junk => exact ⟨_, h, (fun h0 => by simp [G.closed, G.closed0] at h0), fun _ h => by cases h⟩
  | und => exact ⟨_, h, (fun h0 => by simp [G.closed, G.closed0] at h0), fun _ h => by cases h⟩
  | fn f caps => exact ⟨_, h, fun h0 => hr.closed h0 (Keeps.refl _ _) hx1, fun _ h => by cases h⟩
  | _ =>
    simp only [dn2] at h
    obtain ⟨g', h1, h2, h3⟩ := dn1_sound (k := k) hi hx1 hx2 (hr := hr) (hc := rfl) (h := h)
    refine ⟨g', h1, fun h0 => ?_, fun gs e => by subst e; have := h3 rfl; cases this⟩
    by_cases hc : g'.closed0 = true
    · exact h2 hc
    · have := h3 (by simpa using hc)
      subst this
      simp_all [G.closed, G.closed0]
theorem dnT_sound (hi : Inv C F st a w) {Co : Cx} (hx1 : ∀ B, B < w.heap.size → ¬ C.ex B → ¬ Co.ex B) (hx2 : ∀ k B s sz n, C.row k = some (some (B, s, sz, n)) → ¬ Co.ex B) : ∀ (gs : List G) (k : List G → Prop) (vs : List Value), dnT st gs k → vs.length = gs.length → (∀ (i : Nat) g v, gs[i]? = some g → vs[i]? = some v → Rep C w g v) →
    ∃ gs', k gs' ∧ gs'.length = gs.length ∧ ∀ (i : Nat) g v, gs'[i]? = some g → vs[i]? = some v → g.closed = true → Rep Co w g v
  | [], k, vs, h, hl, hr => ⟨[], h, rfl, fun i g v hg => by simp at hg⟩
  | g :: gs, k, [], h, hl, hr => by simp at hl
  | g :: gs, k, v :: vs, h, hl, hr => by
    have h : dn2 st g fun g' => dnT st gs fun gs' => k (g' :: gs') := h
    obtain ⟨g', h1, h2, _⟩ := dn2_sound hi hx1 hx2 (g := g) h (hr 0 g v rfl rfl)
    obtain ⟨gs', k1, k2, k3⟩ := dnT_sound hi hx1 hx2 gs _ vs h1 (by simpa using hl) (fun i g v hg hv => hr (i + 1) g v (by simpa using hg) (by simpa using hv))
    refine ⟨g' :: gs', k1, by simp [k2], fun i q u hg hv h0 => ?_⟩
    cases i with
    | zero => simp at hg hv; subst hg; subst hv; exact h2 h0
    | succ i => exact k3 i q u (by simpa using hg) (by simpa using hv) h0
theorem dn_sound (hi : Inv C F st a w) {Co : Cx} (hx1 : ∀ B, B < w.heap.size → ¬ C.ex B → ¬ Co.ex B) (hx2 : ∀ k B s sz n, C.row k = some (some (B, s, sz, n)) → ¬ Co.ex B) {g : G} {k : G → Prop} (h : dn st g k) {v : Value} (hr : Rep C w g v) : ∃ g', k g' ∧ (g'.closedR = true → Rep Co w g' v) := by
  have std : dn2 st g k → (∀ gs, g ≠ .tup gs) → ∃ g', k g' ∧ (g'.closedR = true → Rep Co w g' v) := fun h hne => by
    obtain ⟨g', h1, h2, h3⟩ := dn2_sound hi hx1 hx2 h hr
    refine ⟨g', h1, fun h0 => h2 ?_⟩
    cases g' <;> first | exact h0 | skip
    obtain ⟨gs, e⟩ := h3 _ rfl
    exact absurd e (hne gs)
  cases g with
  | tup gs =>
    cases hr with
    | tup _ vs hl hr =>
      obtain ⟨gs', k1, k2, k3⟩ := dnT_sound hi hx1 hx2 gs _ vs h hl hr
      refine ⟨_, k1, fun h0 => ?_⟩
      simp only [G.closedR, List.all_eq_true] at h0
      exact .tup gs' vs (by rw [hl, k2]) (fun i g v hg hv => k3 i g v hg hv (h0 g (List.mem_of_getElem? hg)))
  | _ => exact std h (fun gs => by simp)
end

section
variable {C : Cx} {F : Fd} {st : St} {a : Act} {w : World}
/-- The rows are nobody's: what a callee that is lent them sees. -/
def Cx.lent (C : Cx) : Cx := { box := fun _ => none, row := fun _ => none, ex := fun B => C.ex B ∧ ¬ ∃ k s sz n, C.row k = some (some (B, s, sz, n)) }
def lendP (P : Program) (f : FuncId) (gs : List G) (st : St) (k : G → St → Prop) : Prop :=
  dnT st gs fun gs' => fS gs' fun gs' => bif gs'.all G.closed then ∃ g, Fv P f gs' g ∧ bif g.flatR then k g st else False else False
theorem Rep.flat0 {C C' : Cx} {w w' : World} {g : G} {v : Value} (h : Rep C w g v) (hg : g.flat0 = true) : Rep C' w' g v := by
  cases h <;> first | (simp [G.flat0] at hg; done) | skip
  · exact .int ..
  · exact .bool ..
  · exact .str ..
  · exact .lit _ (by assumption)
theorem Rep.flatR {C C' : Cx} {w w' : World} {g : G} {v : Value} (h : Rep C w g v) (hg : g.flatR = true) : Rep C' w' g v := by
  have ag : ∀ gs v, Rep C w (.agg gs) v → gs.all G.flat0 = true → Rep C' w' (.agg gs) v := fun gs v h hg => by
    simp only [List.all_eq_true] at hg
    cases h with
    | agg _ vs hl hc hv h => exact .agg gs vs hl hc hv (fun i g v h1 h2 => (h i g v h1 h2).flat0 (hg g (List.mem_of_getElem? h1)))
  cases g with
  | agg gs => exact ag gs v h hg
  | tup gs =>
    simp only [G.flatR, List.all_eq_true] at hg
    cases h with
    | tup _ vs hl h =>
      refine .tup gs vs hl (fun i g v h1 h2 => ?_)
      have hr := h i g v h1 h2
      have hq := hg g (List.mem_of_getElem? h1)
      cases g with
      | agg hs => exact ag hs v hr hq
      | _ => exact hr.flat0 hq
  | _ => exact h.flat0 hg
theorem lend_sound {P : Program} {f : FuncId} {gs : List G} {k : G → St → Prop} (h : lendP P f gs st k) (hi : Inv C F st a w) {vs : List Value} (hl : vs.length = gs.length)
    (hr : ∀ (i : Nat) g v, gs[i]? = some g → vs[i]? = some v → Rep C w g v) : hasBody P f = true ∧ Calls P f ⟨vs⟩ w fun e w' => ∃ v, e = .returned v ∧ After F k a v w' := by
  unfold lendP at h
  obtain ⟨gs', h, h2, h3⟩ := dnT_sound (Co := C.lent) hi (fun B _ hn hx => hn hx.1) (fun k B s sz n hk hx => hx.2 ⟨k, s, sz, n, hk⟩) gs _ vs h hl hr
  rw [fS_eq] at h
  cases hc : gs'.all G.closed with
  | false => rw [hc] at h; exact h.elim
  | true =>
    rw [hc] at h
    obtain ⟨g, ⟨hb, hF⟩, h⟩ := h
    refine ⟨hb, ?_⟩
    cases hg : g.flatR with
    | false => rw [hg] at h; exact h.elim
    | true =>
      rw [hg] at h
      simp only [List.all_eq_true] at hc
      refine (hF C.lent w (fun _ => False) vs (by rw [hl, h2]) (fun i g v e1 e2 => h3 i g v e1 e2 (hc g (List.mem_of_getElem? e1))) (mem0 w _ (fun B hB => hi.mem.lt B hB.1)) (fun _ h => h.elim) (fun _ _ h => (by cases h)) (fun _ _ _ _ _ h => (by cases h)) (hi.fixed.sub (fun _ h => h.1))).mono fun e w' he => ?_
      obtain ⟨v, C', g', bs', rs', rfl, ⟨rfl, rfl, rfl⟩, hR, hM, hE⟩ := he
      refine ⟨v, rfl, C, g', st, h, ?_, hR.flatR hg⟩
      have hlt : ∀ B, C.ex B → w'.heap[B]? = w.heap[B]? := fun B hB => hE.fr.block B (hi.mem.lt B hB) (fun h => h)
      exact hi.step ⟨hE.fr.os.trans hi.fr.os, hE.fr.tape.trans hi.fr.tape, hE.fr.output.trans hi.fr.output, Nat.le_trans hi.fr.size hE.fr.size, fun B hB hn => (hE.fr.block B (by have := hi.fr.size; omega) (fun h => h)).trans (hi.fr.block B hB hn)⟩
        ⟨hE.fr.size, fun B hB _ => hE.fr.block B hB (fun h => h)⟩ (fun b B hB => hlt B (hi.mem.ltB hB)) (fun k B s sz n hk => hlt B (hi.mem.ltR hk)) C.ex (fun _ h => h) (fun _ h => .inl h) (fun B hB => by have := hi.mem.lt B hB; have := hE.fr.size; omega)
end
end Go.Proofs.YtfacmphjplablaaDoor.Av
namespace Go.Proofs.YtfacmphjplablaaDoor.Av
open Go Go.RowKit
set_option linter.unusedVariables false
set_option linter.unusedSimpArgs false

section
variable {P : Program} {C : Cx} {F : Fd} {st : St} {a : Act} {w : World}

/-- A store into an own row's element. -/
theorem Inv.storeRow {k : Nat} {xs : List (List G)} {w' : World} (h : Inv C F st a w) (hxs : st.rows[k]? = some (some xs)) {B s sz n : Nat} {vs : List Value} {T : TypeId} {fz : Nat × Nat} (k1 : C.row k = some (some (B, s, sz, n)))
    (k3 : w.heap[B]? = some (.cells ⟨vs⟩ T fz)) (k4 : s + n * sz ≤ vs.length) (k5 : 0 < xs.length ∧ xs.length ≤ n) (k6 : ∀ o, o < vs.length → ¬ (fz.1 ≤ o ∧ o < fz.2)) (k6b : ∀ v ∈ vs, v.oneCell' = true)
    (k7 : ∀ r ∈ xs, r.length = sz ∧ ∀ g ∈ r, g.closed0 = true) (k8 : ∀ (i : Nat) r (j : Nat) g v, xs[i]? = some r → r[j]? = some g → vs[s + i * sz + j]? = some v → Rep C w g v)
    {i off : Nat} {row us : List G} {ws : List Value} (hrow : xs[i]? = some row) (hle : off + us.length ≤ row.length) (hl : ws.length = us.length) (hcl : ∀ g ∈ us, g.closed0 = true) (h1 : ∀ v ∈ ws, v.oneCell' = true)
    (hr : ∀ (j : Nat) g v, us[j]? = some g → ws[j]? = some v → Rep C w g v) (ho : Only w w' B (blit vs (s + i * sz + off) ws) T fz) : Inv C F (st.setRow k (xs.set i (blit row off us))) a w' := by
  have he : C.ex B := h.mem.ltR k1
  have hk := ho.keeps he
  have keep : ∀ g v, Rep C w g v → Rep C w' g v := fun g v hg => hg.keep hk (fun _ _ h => h) (fun _ _ h => h) (fun _ _ h => h)
  have hkl : k < st.rows.length := (List.getElem?_eq_some_iff.1 hxs).1
  have hil : i < xs.length := (List.getElem?_eq_some_iff.1 hrow).1
  have hrl : row.length = sz := (k7 row (List.mem_of_getElem? hrow)).1
  have hsp : s + i * sz + off + ws.length ≤ vs.length := by
    have : (i + 1) * sz ≤ n * sz := Nat.mul_le_mul_right _ (by omega)
    rw [Nat.succ_mul] at this; omega
  refine ⟨h.nd, h.sz, fun j g v hg hv => keep g v (h.slots j g v hg hv), ⟨fun x cs' hx => ?_, fun x ys hx => ?_, h.mem.domB, fun x X hx => ?_, h.mem.bb, h.mem.rr, h.mem.br, fun X hX => by rw [ho.size]; exact h.mem.lt X hX⟩, ho.fr h.fr (h.tr k B s sz n k1), h.ex0, h.exn, h.t0, h.tb, h.tr, h.fb⟩
  · obtain ⟨X, vs', T', q1, q2, q3, q4, q5, q6⟩ := h.mem.box x cs' hx
    have hne : X ≠ B := fun e' => h.mem.br x k B s sz n (by rw [← e']; exact q1) k1
    exact ⟨X, vs', T', q1, q2, by rw [ho.block X hne]; exact q3, q4, q5, fun j g v hg hv => ⟨(q6 j g v hg hv).1, keep _ _ (q6 j g v hg hv).2⟩⟩
  · by_cases e : x = k
    · subst e
      simp only [St.setRow, List.getElem?_set_self hkl, Option.some.injEq] at hx
      subst hx
      refine .inr ⟨B, s, sz, n, _, T, fz, k1, he, ho.here, by rw [blit_length]; exact k4, by simpa using k5, fun o ho' => k6 o (by rwa [blit_length] at ho'), fun v hv => ?_, fun r hm => ?_, fun i' r j g v a1 a2 a3 => ?_⟩
      · obtain ⟨j, hj⟩ := List.mem_iff_getElem?.1 hv
        rw [blit_get _ _ _ _ hsp] at hj
        split at hj
        · exact h1 v (List.mem_of_getElem? hj)
        · exact k6b v (List.mem_of_getElem? hj)
      · rcases List.mem_or_eq_of_mem_set hm with hm | rfl
        · exact k7 r hm
        · refine ⟨by rw [blit_length]; exact hrl, fun g hg => ?_⟩
          obtain ⟨j, hj⟩ := List.mem_iff_getElem?.1 hg
          rw [blit_get _ _ _ _ (by omega)] at hj
          split at hj
          · exact hcl g (List.mem_of_getElem? hj)
          · exact (k7 row (List.mem_of_getElem? hrow)).2 g (List.mem_of_getElem? hj)
      · rw [blit_get _ _ _ _ hsp] at a3
        rw [List.getElem?_set] at a1
        by_cases e : i = i'
        · subst e
          rw [if_pos rfl, if_pos hil] at a1
          cases a1
          rw [blit_get _ _ _ _ (by omega)] at a2
          by_cases hc : off ≤ j ∧ j < off + us.length
          · rw [if_pos hc] at a2
            rw [if_pos (by omega), show s + i * sz + j - (s + i * sz + off) = j - off from by omega] at a3
            exact keep _ _ (hr _ g v a2 a3)
          · rw [if_neg hc] at a2
            rw [if_neg (by omega)] at a3
            exact keep _ _ (k8 i row j g v hrow a2 a3)
        · rw [if_neg e] at a1
          have hj : j < sz := by rw [← (k7 r (List.mem_of_getElem? a1)).1]; exact (List.getElem?_eq_some_iff.1 a2).1
          rw [if_neg (by
            intro hc
            rcases Nat.lt_or_gt_of_ne e with hlt | hlt
            · have : (i + 1) * sz ≤ i' * sz := Nat.mul_le_mul_right _ hlt
              rw [Nat.succ_mul] at this; omega
            · have : (i' + 1) * sz ≤ i * sz := Nat.mul_le_mul_right _ hlt
              rw [Nat.succ_mul] at this; omega)] at a3
          exact keep _ _ (k8 i' r j g v a1 a2 a3)
    · simp only [St.setRow, List.getElem?_set_ne (fun e' => e e'.symm)] at hx
      rcases h.mem.row x ys hx with q1 | ⟨X, s', sz', n', vs', T', fz', q1, q2, q3, q4, q5, q6, q6b, q7, q8⟩
      · exact .inl q1
      · have hne : X ≠ B := fun e' => e (h.mem.rr x k X s' sz' n' s sz n q1 (by rw [e']; exact k1))
        exact .inr ⟨X, s', sz', n', vs', T', fz', q1, q2, by rw [ho.block X hne]; exact q3, q4, q5, q6, q6b, q7, fun i r j g v a1 a2 a3 => keep _ _ (q8 i r j g v a1 a2 a3)⟩
  · by_cases e : x = k
    · subst e; exact ⟨_, by simp only [St.setRow]; exact List.getElem?_set_self hkl⟩
    · obtain ⟨ys, hys⟩ := h.mem.domR x X hx
      exact ⟨ys, by simp only [St.setRow, List.getElem?_set_ne (fun e' => e e'.symm)]; exact hys⟩

def storeW (P : Program) (t : TypeId) (st : St) (kk i off : Nat) (x : G) (k : St → Prop) : Prop :=
  match P.underlying t, st.rows.getD kk none with
  | some _, some xs => ∃ row, (xs[i]? = some row ∧ off + P.cellsOf t ≤ row.length) ∧ bif okReg x && (x.cells.length == P.cellsOf t) && x.cells.all G.closed0 then k (st.setRow kk (xs.set i (blit row off x.cells))) else False
  | _, _ => False
theorem storeW_sound {t : TypeId} {kk i off : Nat} {x : G} {k : St → Prop} (h : storeW P t st kk i off x k) (hi : Inv C F st a w) {u v : Value} (hp : Rep C w (.eltw kk i off) u) (hx : Rep C w x v) :
    ∃ st' w', k st' ∧ (Instr.storeAt t u v).run P w = .ok () w' ∧ Inv C F st' a w' := by
  unfold storeW at h
  split at h
  · rename_i dd xs hu hxs
    obtain ⟨row, ⟨hrow, hle⟩, h⟩ := h
    cases hc : okReg x && (x.cells.length == P.cellsOf t) && x.cells.all G.closed0 with
    | false => rw [hc] at h; exact h.elim
    | true =>
      rw [hc] at h
      simp only [Bool.and_eq_true, beq_iff_eq, List.all_eq_true] at hc
      obtain ⟨⟨c1, c2⟩, c3⟩ := hc
      obtain ⟨r1, r2, r3⟩ := hx.cells (okReg_cases c1)
      cases hp with
      | eltw _ _ _ B s sz n hr =>
        rcases hi.mem.row kk xs (rowsOf hxs) with ⟨k1, rfl⟩ | ⟨B', s', z', n', vs, T, fz, k1, k2, k3, k4, k5, k6, k6b, k7, k8⟩
        · simp at hrow
        · rw [hr] at k1; cases k1
          have hil : i < xs.length := (List.getElem?_eq_some_iff.1 hrow).1
          have hrl : row.length = sz := (k7 row (List.mem_of_getElem? hrow)).1
          obtain ⟨w', hw, ho⟩ := run_storeVar_on (P := P) k3 hu (v := v) (o := s + i * sz + off) (by rw [r1, c2]) (by
            have : (i + 1) * sz ≤ n * sz := Nat.mul_le_mul_right _ (by omega)
            rw [Nat.succ_mul] at this; omega) r2 k6
          exact ⟨_, w', h, by simpa [Instr.storeAt, Instr.sureAddr] using hw, hi.storeRow (rowsOf hxs) hr k3 k4 k5 k6 k6b k7 k8 hrow (by omega) r1 c3 r2 (fun j g v hg hv => (r3 j g v hg hv).2) ho⟩
  · exact h.elim

def makeP (P : Program) (d : Nat) (t : TypeId) (l c : G) (st : St) (k : G → St → Prop) : Prop :=
  match P.underlying t, l, c with
  | some (.slice e), .int _ n, .int _ m => match zeroCells P e with
    | some zc => bif zc.all G.closed0 && Nat.blt 0 (P.cellsOf e) && Nat.blt d st.rows.length then (0 ≤ n ∧ n = m ∧ n * P.bytesOf e ≤ 281474976710656 ∧ n ≤ 281474976710656) ∧ k (.own d 0 n.toNat) ((st.freeRow d).setRow d (List.replicate n.toNat zc)) else False
    | none => False
  | _, _, _ => False
theorem makeP_sound {d : Nat} {t : TypeId} {l c : G} {k : G → St → Prop} (h : makeP P d t l c st k) (hi : Inv C F st a w) {u v : Value} (hl : Rep C w l u) (hc : Rep C w c v) :
    ∃ z w', (Instr.makeSlice t u v).run P w = .ok z w' ∧ After F k a z w' := by
  unfold makeP at h
  split at h
  · rename_i e k1 n k2 m hu
    split at h
    · rename_i zc hz
      cases hq : zc.all G.closed0 && Nat.blt 0 (P.cellsOf e) && Nat.blt d st.rows.length with
      | false => rw [hq] at h; exact h.elim
      | true =>
        rw [hq] at h
        simp only [Bool.and_eq_true, List.all_eq_true] at hq
        obtain ⟨⟨q1, q2⟩, q3⟩ := hq
        have q2 := Nat.le_of_ble_eq_true q2
        have q3 := Nat.le_of_ble_eq_true q3
        obtain ⟨⟨n0, rfl, n1, n2⟩, h⟩ := h
        obtain rfl := hl.int_inv
        obtain rfl := hc.int_inv
        obtain ⟨z, z1, z2, z3, z4, z5⟩ := zeroCells_sound hz w
        -- the type's facts
        unfold zeroCells at hz
        split at hz
        · rename_i ii hii
          split at hz
          · rename_i zz hzz
            have hbytes : P.bytesOf e = ii.bytes := by simp [Program.bytesOf, hii]
            have hsize : P.cellsOf e = ii.size := by simp [Program.cellsOf, hii]
            have hrun := run_make w t e ii zz hu hii hzz k1 k2 n n n0 (Int.le_refl _) (by rw [hbytes] at n1; rw [Int.mul_comm]; exact n1) (by omega)
            obtain ⟨z', zr⟩ : ∃ z', (zeroValue e).run P w = .ok z' w ∧ z' = zz := ⟨zz, by simp [zeroValue, hii, hzz, typeInfo], rfl⟩
            rw [zr.2] at zr
            rw [zr.1] at z1
            cases z1
            have hzs : z.cells.size = P.cellsOf e := by rw [← Array.length_toList, z2, z3]
            obtain ⟨C1, hI1, hk1, hbx, hex, hrw, _⟩ := hi.freeRow d
            have hlt1 : d < (st.freeRow d).rows.length := by rw [freeRow_len]; exact q3
            rcases Int.lt_or_eq_of_le n0 with hpos | rfl
            · have hnp : 0 < n.toNat := by omega
              obtain ⟨C2, hI2, hk2⟩ := hI1.newRow (k := d) hk1 hlt1 (sz := P.cellsOf e) (n := n.toNat) (vs := (madeCells z.cells (n.toNat * ii.size)).toList) (T := e) (fz := (0, 0)) (xs := List.replicate n.toNat zc)
                (by rw [Array.length_toList, size_madeCells, hsize]; exact Nat.le_refl _) ⟨by rw [List.length_replicate]; exact hnp, by rw [List.length_replicate]; exact Nat.le_refl _⟩
                (fun v hv => by
                  obtain ⟨j, hj⟩ := List.mem_iff_getElem?.1 hv
                  have hjl : j < n.toNat * ii.size := by have := (List.getElem?_eq_some_iff.1 hj).1; rwa [Array.length_toList, size_madeCells] at this
                  simp [madeCells, hjl] at hj
                  have hm : j % z.cells.size < z.cells.size := Nat.mod_lt _ (by omega)
                  rw [getElem!_pos z.cells _ hm] at hj
                  exact z4 v (by rw [← hj]; simp))
                (fun o ho => by simp) (fun r hr => by
                  rw [List.eq_of_mem_replicate hr]
                  exact ⟨z3, fun g hg => q1 g hg⟩)
                (fun i r j g v a1 a2 a3 => by
                  have hr : r = zc := List.eq_of_mem_replicate (List.mem_of_getElem? a1)
                  subst hr
                  have hi' : i < n.toNat := by have := (List.getElem?_eq_some_iff.1 a1).1; simpa using this
                  have hj : j < P.cellsOf e := by rw [← z3]; exact (List.getElem?_eq_some_iff.1 a2).1
                  have hm0 := mul_lt hi' hj
                  have hb : i * P.cellsOf e + j < n.toNat * ii.size := by rw [← hsize]; exact hm0
                  simp [madeCells, hb] at a3
                  have e1 : (i * P.cellsOf e + j) % z.cells.size = j := by rw [hzs, Nat.mul_comm, Nat.mul_add_mod, Nat.mod_eq_of_lt hj]
                  rw [e1, getElem!_pos z.cells _ (by omega)] at a3
                  exact (z5 C1 w j g v a2 (by rw [← a3]; simp)).2)
              refine ⟨_, _, hrun, C2, _, _, h, hI2, ?_⟩
              have := Rep.own (C := C2) (w := w.alloc (.cells (madeCells z.cells (n.toNat * ii.size)) e)) d 0 n.toNat w.heap.size 0 (P.cellsOf e) n.toNat ⟨w.heap.size, 0, none⟩ hk2 (by omega) ⟨fun _ => by simp, rfl, rfl⟩
              simpa using this
            · have hI1' := hI1.lt_alloc (.cells (madeCells z.cells ((0 : Int).toNat * ii.size)) e)
              obtain ⟨C2, hI2, hk2, _⟩ := hI1'.addNil (k := d) hk1 hlt1
              exact ⟨_, _, hrun, C2, _, _, h, hI2, .ownnil d _ hk2⟩
          · cases hz
        · cases hz
    · exact h.elim
  · exact h.elim

/-! Cutting own rows, and to nothing. -/
def sliceO (P : Program) (t : TypeId) (st : St) (kk off len : Nat) (lo hi : Option G) (k : G → Prop) : Prop :=
  match P.underlying t, st.rows.getD kk none with
  | some (.slice e), some xs => bif (P.info? e).isNone then False else boundP hi len fun h hz => boundP lo 0 fun l lz => (0 ≤ lz ∧ lz ≤ hz ∧ hz ≤ len ∧ ∀ r ∈ xs, r.length = P.cellsOf e) ∧ k (.own kk (off + l) (h - l))
  | _, _ => False
theorem sliceO_sound {t : TypeId} {kk off len : Nat} {lo hi' : Option Operand} {k : G → Prop} (h : sliceO P t st kk off len (lo.map st.ev) (hi'.map st.ev) k) (hi : Inv C F st a w) {u : Value} (hx : Rep C w (.own kk off len) u) :
    ∃ g z, k g ∧ (Instr.sliceAt t u (lo.map a.eval) (hi'.map a.eval) none).run P w = .ok z w ∧ Rep C w g z := by
  unfold sliceO at h
  split at h
  · rename_i e xs hu hxs
    cases hin : (P.info? e).isNone with
    | true => rw [hin] at h; exact h.elim
    | false =>
      rw [hin] at h
      simp only [cond_false] at h
      obtain ⟨ii, hii⟩ : ∃ ii, P.info? e = some ii := by cases hq : P.info? e <;> simp_all
      obtain ⟨hh, hz, h, e1⟩ := boundP_run h hi
      obtain ⟨l, lz, ⟨⟨b1, b2, b3, b4⟩, h⟩, e2⟩ := boundP_run h hi
      have hlh : l ≤ hh ∧ hh ≤ len := by
        rcases e1 with ⟨_, q1, q2⟩ | ⟨_, _, _, _, q1⟩ <;> rcases e2 with ⟨_, q3, q4⟩ | ⟨_, _, _, _, q3⟩ <;> omega
      cases hx with
      | ownnil _ A hr =>
        obtain rfl : hh = 0 := by omega
        obtain rfl : l = 0 := by omega
        refine ⟨_, .slice A 0 0, h, ?_, by simpa using Rep.ownnil kk A hr⟩
        simp only [Instr.sliceAt, Instr.slice, Sem.run_bind, run_underlying hu, Result.andThen_ok]
        rw [run_bounds (P := P) (a := a) (cap := 0) e1 e2 b1 b2 b3 (Nat.le_refl _)]
        simp only [Result.andThen_ok, Go.run_sizeOf w hii, Sem.run_pure, Sem.run_bind]
        simp
      | own _ _ _ B s sz n A hr ho hA =>
        rcases hi.mem.row kk xs (rowsOf hxs) with ⟨k1, rfl⟩ | ⟨B', s', z', n', vs, T, fz, k1, k2, k3, k4, k5, k6, k6b, k7, k8⟩
        · rw [k1] at hr; cases hr
        · rw [hr] at k1; cases k1
          have hx0 : xs[0]? = some (xs[0]'(by omega)) := List.getElem?_eq_getElem (by omega)
          have hsz : sz = P.cellsOf e := by rw [← (k7 _ (List.mem_of_getElem? hx0)).1]; exact b4 _ (List.mem_of_getElem? hx0)
          refine ⟨_, .slice (if n - off = l then some A else (some A).map (·.add (l * P.cellsOf e))) (hh - l) (n - off - l), h, ?_, ?_⟩
          · simp only [Instr.sliceAt, Instr.slice, Sem.run_bind, run_underlying hu, Result.andThen_ok]
            rw [run_bounds (P := P) (a := a) (cap := n - off) e1 e2 b1 b2 b3 (by omega)]
            simp only [Result.andThen_ok, Go.run_sizeOf w hii, Sem.run_pure, Sem.run_bind]
          · rw [show n - off - l = n - (off + l) from by omega]
            by_cases hl : n - off = l
            · rw [if_pos hl]
              exact .own kk (off + l) (hh - l) B s sz n A hr (by omega) ⟨fun hlt => by omega, hA.2.1, hA.2.2⟩
            · rw [if_neg hl]
              obtain rfl := hA.1 (by omega)
              simp only [Option.map_some, addr_add]
              exact .own kk (off + l) (hh - l) B s sz n _ hr (by omega) ⟨fun hlt => by rw [← hsz, Nat.add_mul, Nat.add_assoc], rfl, rfl⟩
  · exact h.elim

/-! Bytes as a string. -/
def bytesP (P : Program) (src dst : TypeId) (x : G) (st : St) (k : G → Prop) : Prop :=
  match P.underlying src, P.underlying dst with
  | some (.slice e), some .string => match P.underlying e with
    | some (.int .u8) => srcP st x fun ys => ∃ bs : List UInt8, ys = bs.map (fun b => [G.int .u8 b.toNat]) ∧ k (.str ⟨bs.toArray⟩)
    | _ => False
  | _, _ => False
theorem bytesP_sound {src dst : TypeId} {x : G} {k : G → Prop} (h : bytesP P src dst x st k) (hi : Inv C F st a w) {u : Value} (hx : Rep C w x u) (hs : ∀ s, x ≠ .str s) : ∃ g z, k g ∧ (convert src dst u).run P w = .ok z w ∧ Rep C w g z := by
  unfold bytesP at h
  split at h
  · rename_i e hu hd
    split at h
    · rename_i he
      have hcell : ∃ A n cap, u = .slice A n cap := by
        cases x with
        | str s => exact absurd rfl (hs s)
        | nils => cases hx; exact ⟨_, _, _, rfl⟩
        | emp => cases hx; exact ⟨_, _, _, rfl⟩
        | ne => cases hx; exact ⟨_, _, _, rfl⟩
        | sl => cases hx <;> exact ⟨_, _, _, rfl⟩
        | own => cases hx <;> exact ⟨_, _, _, rfl⟩
        | _ => simp [srcP] at h
      obtain ⟨ys, ⟨bs, hbs, h⟩, hlen, hread⟩ := src_sound (P := P) h hi hx (sz := 1) (by omega)
      have hys : ys.length = bs.length := by rw [hbs]; simp
      obtain ⟨ws, hws, hcw⟩ := hread (fun r hr => by
        rw [hbs] at hr
        obtain ⟨b, _, rfl⟩ := List.mem_map.1 hr
        exact ⟨rfl, fun g hg => by simp at hg; subst hg; rfl⟩)
      have hval : ws = (bs.map fun b => (b.toNat : Int)).map (Value.int .u8) := by
        apply List.ext_getElem?
        intro i
        by_cases hlt : i < bs.length
        · have h1 : ys[i]? = some [G.int .u8 (bs[i].toNat)] := by rw [hbs, List.getElem?_map, List.getElem?_eq_getElem hlt]; rfl
          have hwl : i < ws.length := by rw [hcw.len, hys]; omega
          have := hcw.rep i _ 0 _ ws[i] h1 rfl (by rw [Nat.mul_one, Nat.add_zero]; exact List.getElem?_eq_getElem hwl)
          rw [List.getElem?_eq_getElem hwl, this.int_inv]
          simp [List.getElem?_eq_getElem hlt]
        · rw [List.getElem?_eq_none (by rw [hcw.len, hys]; omega), List.getElem?_eq_none (by simp; omega)]
      obtain ⟨A, n, cap, rfl⟩ := hcell
      have hn : n = ys.length := by simpa [Builtin.lenOf] using hlen
      subst hn
      refine ⟨_, .string ⟨bs.toArray⟩, h, ?_, .str _⟩
      rw [run_convert_bytes_string w src dst e A _ cap hu he hd]
      have hf := hws w rfl
      cases A with
      | none =>
        simp only [Builtin.firstCells, Sem.run_pure] at hf
        have : bs = [] := by
          have h0 : ws = [] := by simpa using (Result.ok.inj hf).1.symm
          rw [h0] at hval
          simpa using hval
        subst this
        simp [Conv.bytesToString]
        rfl
      | some A =>
        simp only [Builtin.firstCells, Nat.mul_one] at hf
        rw [run_bytesToString w A ys.length cap (bs.map fun b => (b.toNat : Int)) (by rw [hf, hval]), foldl_push_byteCells]
        simp [ByteArray.empty, ByteArray.emptyWithCapacity]
        try rfl
    · exact h.elim
  · exact h.elim

/-! Pointers against nil, and against themselves. -/
def ptrEq (P : Program) (t : TypeId) (x y : G) : Option Bool :=
  match P.underlying t with
  | some (.pointer te) => match x, y with
    | .ptr b o, .ptr b' o' => bif (P.info? te).isSome && Nat.beq b b' && Nat.beq o o' then some true else none
    | .ptr .., .lit (.pointer none) | .elt .., .lit (.pointer none) | .eltw .., .lit (.pointer none) => some false
    | .lit (.pointer none), .lit (.pointer none) => some true
    | _, _ => none
  | some (.slice _) => match x, y with
    | .nils, .nils => some true
    | .ne, .nils => some false
    | .sl (_ :: _), .nils => some false
    | _, _ => none
  | some (.interface _) => match x, y with
    | .lit (.iface ..), .lit .nilIface => some false
    | _, _ => none
  | _ => none
theorem ptrEq_sound {t : TypeId} {x y : G} {b : Bool} (h : ptrEq P t x y = some b) {u v : Value} (hx : Rep C w x u) (hy : Rep C w y v) (X Y : Operand) :
    (do eqGuard .eql t X Y u v; binOp .eql t u v : Sem Value).run P w = .ok (.bool b) w ∧ (do eqGuard .neq t X Y u v; binOp .neq t u v : Sem Value).run P w = .ok (.bool !b) w := by
  have fin : ∀ u v, (∀ d, (Op.equalIn (d + 1) t u v).run P w = .ok b w) → (eqGuard .eql t X Y u v).run P w = .ok () w → (eqGuard .neq t X Y u v).run P w = .ok () w → binOp .eql t u v = (do pure (.bool (← Op.equal t u v)) : Sem Value) → binOp .neq t u v = (do pure (.bool !(← Op.equal t u v)) : Sem Value) →
      (do eqGuard .eql t X Y u v; binOp .eql t u v : Sem Value).run P w = .ok (.bool b) w ∧ (do eqGuard .neq t X Y u v; binOp .neq t u v : Sem Value).run P w = .ok (.bool !b) w := fun u v he g1 g2 b1 b2 => by
    have hq : (Op.equal t u v).run P w = .ok b w := he 9999
    constructor
    · rw [Sem.run_bind, g1, Result.andThen_ok, b1, Sem.run_bind, hq]; rfl
    · rw [Sem.run_bind, g2, Result.andThen_ok, b2, Sem.run_bind, hq]; rfl
  unfold ptrEq at h
  split at h
  · rename_i te hu
    split at h
    · rename_i b1 o1 b2 o2
      cases hc : (P.info? te).isSome && Nat.beq b1 b2 && Nat.beq o1 o2 with
      | false => rw [hc] at h; cases h
      | true =>
        rw [hc] at h
        cases h
        simp only [Bool.and_eq_true] at hc
        obtain ⟨⟨c1, c2⟩, c3⟩ := hc
        obtain ⟨j, hj⟩ := Option.isSome_iff_exists.1 c1
        obtain rfl := Nat.eq_of_beq_eq_true c2
        obtain rfl := Nat.eq_of_beq_eq_true c3
        cases hx with
        | ptr _ _ B hB =>
          cases hy with
          | ptr _ _ B' hB' =>
            rw [hB] at hB'; cases hB'
            exact fin _ _ (fun d => by simp [Op.equalIn, run_underlying hu, sizeOf, typeInfo, hj, run_sameAddr_same]) rfl rfl rfl rfl
    · cases h
      cases hx; cases hy
      exact fin _ _ (fun d => by simp [Op.equalIn, run_underlying hu]) rfl rfl rfl rfl
    · cases h
      cases hx; cases hy
      exact fin _ _ (fun d => by simp [Op.equalIn, run_underlying hu]) rfl rfl rfl rfl
    · cases h
      cases hx; cases hy
      exact fin _ _ (fun d => by simp [Op.equalIn, run_underlying hu]) rfl rfl rfl rfl
    · cases h
      cases hx; cases hy
      exact fin _ _ (fun d => by simp [Op.equalIn, run_underlying hu]) rfl rfl rfl rfl
    · cases h
  · rename_i e hu
    split at h
    · cases h
      cases hx; cases hy
      exact fin _ _ (fun d => by simp [Op.equalIn, run_underlying hu]) rfl rfl rfl rfl
    · cases h
      cases hx; cases hy
      exact fin _ _ (fun d => by simp [Op.equalIn, run_underlying hu]) rfl rfl rfl rfl
    · cases h
      cases hx; cases hy
      exact fin _ _ (fun d => by simp [Op.equalIn, run_underlying hu]) rfl rfl rfl rfl
    · cases h
  · rename_i ms hu
    split at h
    · cases h
      cases hx; cases hy
      exact fin _ _ (fun d => by simp [Op.equalIn, run_underlying hu]) rfl rfl rfl rfl
    · cases h
  · cases h
end

/-- 's[:0:0]': nothing, and no room behind it. -/
def cut0 : G → Option G
  | .nils => some .nils
  | .emp | .ne | .sl _ | .own .. => some .emp
  | _ => none
def cutP (P : Program) (t : TypeId) (x h m : G) (k : G → Prop) : Prop :=
  match P.underlying t, h, m, cut0 x with
  | some (.slice e), .int _ hn, .int _ mn, some g => bif (P.info? e).isSome then (hn = 0 ∧ mn = 0) ∧ k g else False
  | _, _, _, _ => False
theorem cutP_sound {P : Program} {C : Cx} {w : World} {t : TypeId} {x h m : G} {k : G → Prop} (hc : cutP P t x h m k) {u v z : Value} (hx : Rep C w x u) (hh : Rep C w h v) (hm : Rep C w m z) :
    ∃ g y, k g ∧ (Instr.sliceAt t u none (some v) (some z)).run P w = .ok y w ∧ Rep C w g y := by
  unfold cutP at hc
  split at hc
  · rename_i e k1 hn k2 mn g hu hg
    cases hi : (P.info? e).isSome with
    | false => rw [hi] at hc; exact hc.elim
    | true =>
      rw [hi] at hc
      obtain ⟨⟨rfl, rfl⟩, hk⟩ := hc
      obtain ⟨ii, hii⟩ := Option.isSome_iff_exists.1 hi
      obtain rfl := hh.int_inv
      obtain rfl := hm.int_inv
      have run : ∀ (A : Option Addr) (n cap : Nat), (Instr.sliceAt t (.slice A n cap) none (some (.int k1 0)) (some (.int k2 0))).run P w = .ok (.slice A 0 0) w := fun A n cap => by
        simp [Instr.sliceAt, Instr.slice, run_underlying hu, Instr.sliceBounds, Instr.sliceBound, asIntOf, Go.run_sizeOf w hii]
      cases x <;> simp only [cut0, Option.some.injEq] at hg <;> first | (cases hg; done) | skip
      · subst hg
        cases hx <;> exact ⟨_, _, hk, run _ _ _, .emp _⟩
      · subst hg; cases hx; exact ⟨_, _, hk, run _ _ _, .nils⟩
      · subst hg; cases hx; exact ⟨_, _, hk, run _ _ _, .emp _⟩
      · subst hg; cases hx; exact ⟨_, _, hk, run _ _ _, .emp _⟩
      · subst hg
        cases hx <;> exact ⟨_, _, hk, run _ _ _, .emp _⟩
  · exact hc.elim
/-- '[]T{}': nothing, and not nil. -/
def noneP (P : Program) (t : TypeId) (k : G → Prop) : Prop :=
  match P.underlying t with
  | some (.slice e) => bif (P.info? e).isSome then k .emp else False
  | _ => False
theorem noneP_sound {P : Program} {C : Cx} {F : Fd} {st : St} {a : Act} {w : World} {t : TypeId} {k : G → Prop} (h : noneP P t k) (hi : Inv C F st a w) : ∃ z w', (Instr.buildSlice t 0 #[]).run P w = .ok z w' ∧ After F (fun g st' => k g ∧ st' = st) a z w' := by
  unfold noneP at h
  split at h
  · rename_i e hu
    cases hq : (P.info? e).isSome with
    | false => rw [hq] at h; exact h.elim
    | true =>
      rw [hq] at h
      obtain ⟨ii, hii⟩ := Option.isSome_iff_exists.1 hq
      refine ⟨.slice (some ⟨w.heap.size, 0, none⟩) 0 0, w.alloc (.cells #[] e), ?_, C, .emp, st, ⟨h, rfl⟩, hi.lt_alloc _, .emp _⟩
      simp [Instr.buildSlice, run_underlying hu, Go.run_sizeOf w hii, Instr.fill, newRow]
      congr 2
      exact Array.eq_empty_of_size_eq_zero (by simp)
  · exact h.elim
/-- A string as bytes: a new row. -/
def isAlloc (P : Program) (st : St) : Op → Bool
  | .convert _ dst x => match P.underlying dst, st.ev x with
    | some (.slice _), .str _ => true
    | _, _ => false
  | _ => false
def isNum : G → Bool
  | .int .. | .str _ => true
  | _ => false
def xop (P : Program) (d : Nat) (op : Op) (st : St) (k : G → St → Prop) : Prop :=
  match op with
  | .makeSlice t l c => makeP P d t (st.ev l) (st.ev c) st k
  | .store t p x => match st.ev p with
    | .eltw kk i off => storeW P t st kk i off (st.ev x) fun st' => k .junk st'
    | _ => vop P d (.store t p x) st k
  | .slice t x lo hi none => match st.ev x with
    | .own kk off len => sliceO P t st kk off len (lo.map st.ev) (hi.map st.ev) fun g => k g st
    | _ => vop P d (.slice t x lo hi none) st k
  | .slice t x none (some hh) (some m) => cutP P t (st.ev x) (st.ev hh) (st.ev m) fun g => k g st
  | .buildSlice t 0 ⟨[]⟩ => noneP P t fun g => k g st
  | .convert src dst x => bif isNum (st.ev x) then vop P d (.convert src dst x) st k else bytesP P src dst (st.ev x) st fun g => k g st
  | .binOp .eql t x y yt => match ptrEq P t (st.ev x) (st.ev y) with
    | some b => k (.bool b) st
    | none => vop P d (.binOp .eql t x y yt) st k
  | .binOp .neq t x y yt => match ptrEq P t (st.ev x) (st.ev y) with
    | some b => k (.bool !b) st
    | none => vop P d (.binOp .neq t x y yt) st k
  | op => vop P d op st k
theorem xop_sound {P : Program} {o : Oper} {d : Nat} {st : St} {k : G → St → Prop} {C : Cx} {F : Fd} {a : Act} {w : World} (h : xop P d o.op st k) (hi : Inv C F st a w) : Goes P o a w (After F k a) := by
  unfold xop at h
  split at h
  · rename_i t l c hop
    obtain ⟨z, w', h1, h2⟩ := makeP_sound h hi (hi.ev l) (hi.ev c)
    exact ⟨z, w', .inl (by cases o; simp only at hop; subst hop; simp [execOp, h1]), h2⟩
  · rename_i t p x hop
    split at h
    · rename_i kk i off hp
      have hr := hi.ev p
      rw [hp] at hr
      obtain ⟨st', w', h1, h2, h3⟩ := storeW_sound h hi hr (hi.ev x)
      exact ⟨undef, w', .inr ⟨by cases o; simp only at hop; subst hop; simp [execOp, h2], rfl⟩, C, _, _, h1, h3, .junk _⟩
    · exact vop_sound (by rw [hop]; exact h) hi
  · rename_i t x lo hi' hop
    split at h
    · rename_i kk off len hx
      have hr := hi.ev x
      rw [hx] at hr
      obtain ⟨g, z, h1, h2, h3⟩ := sliceO_sound h hi hr
      exact ⟨z, w, .inl (by cases o; simp only at hop; subst hop; simp [execOp, h2]), after_same hi h1 h3⟩
    · exact vop_sound (by rw [hop]; exact h) hi
  · rename_i t x hh m hop
    obtain ⟨g, z, h1, h2, h3⟩ := cutP_sound h (hi.ev x) (hi.ev hh) (hi.ev m)
    exact ⟨z, w, .inl (by cases o; simp only at hop; subst hop; simp [execOp, h2]), after_same hi h1 h3⟩
  · rename_i t hop
    obtain ⟨z, w', h1, h2⟩ := noneP_sound h hi
    obtain ⟨C', g, s, ⟨q1, rfl⟩, q2, q3⟩ := h2
    exact ⟨z, w', .inl (by cases o; simp only at hop; subst hop; simp [execOp, h1]), C', g, _, q1, q2, q3⟩
  · rename_i src dst x hop
    cases hn : isNum (st.ev x) with
    | true => rw [hn] at h; simp only [cond_true] at h; exact vop_sound (d := d) (by rw [hop]; exact h) hi
    | false =>
      rw [hn] at h
      simp only [cond_false] at h
      obtain ⟨g, z, h1, h2, h3⟩ := bytesP_sound h hi (hi.ev x) (fun s e => by rw [e] at hn; cases hn)
      exact ⟨z, w, .inl (by cases o; simp only at hop; subst hop; simp [execOp, h2]), after_same hi h1 h3⟩
  · rename_i t x y yt hop
    split at h
    · rename_i b hb
      obtain ⟨h1, h2⟩ := ptrEq_sound hb (hi.ev x) (hi.ev y) x y
      refine ⟨_, w, .inl ?_, after_same hi h (.bool _)⟩
      cases o; simp only at hop; subst hop
      simp only [execOp]
      rw [Sem.run_bind, h1]; rfl
    · exact vop_sound (by rw [hop]; exact h) hi
  · rename_i t x y yt hop
    split at h
    · rename_i b hb
      obtain ⟨h1, h2⟩ := ptrEq_sound hb (hi.ev x) (hi.ev y) x y
      refine ⟨_, w, .inl ?_, after_same hi h (.bool _)⟩
      cases o; simp only at hop; subst hop
      simp only [execOp]
      rw [Sem.run_bind, h2]; rfl
    · exact vop_sound (by rw [hop]; exact h) hi
  · exact vop_sound h hi
end Go.Proofs.YtfacmphjplablaaDoor.Av
namespace Go.Proofs.YtfacmphjplablaaDoor.Av
open Go Go.RowKit
set_option linter.unusedVariables false
set_option linter.unusedSimpArgs false

/-- A call of a Go function: by values; or its own things are lent, or handed by place. -/
def callP (P : Program) (d : Nat) (f : FuncId) (gs : List G) (st : St) (k : G → St → Prop) : Prop :=
  bif gs.all G.closed then (∃ g, Fv P f gs g ∧ bif g.closedR then k g st else False) ∨ placeP P d f gs st k
  else lendP P f gs st k ∨ placeP P d f gs st k
/-- The abstract law of an operation, calls too. -/
def cop (P : Program) (d : Nat) (o : Oper) (st : St) (k : G → St → Prop) : Prop :=
  match o.op with
  | .call { callee := .value f, args, .. } => match st.ev f with
    | .fn f caps => fS (args.toList.map st.ev ++ caps) fun gs => callP P d f gs st k
    | .meth f gs0 => fS (gs0 ++ args.toList.map st.ev) fun gs => callP P d f gs st k
    | _ => False
  | .call { callee := .builtin .append, args, argTypes } => match args.toList.map st.ev, argTypes[0]?, argTypes[1]? with
    | [s, x], some tS, some tX => appP P d s x tS tX st k
    | _, _, _ => False
  | op => xop P d op st k

theorem St.put_len (st : St) (d : Option Tmp) (g : G) : (st.put d g).slots.length = st.slots.length := by cases d <;> simp [St.put]
theorem Inv.put {C : Cx} {F : Fd} {st : St} {a : Act} {w : World} (h : Inv C F st a w) (d : Option Tmp) {g : G} {v : Value} (hr : Rep C w g v) : Inv C F (st.put d g) (a.put d v) w := by
  cases d with
  | none => exact h
  | some d =>
    refine ⟨h.nd, by simp [St.put, Act.put, h.sz], fun i g' v' hg hv => ?_, h.mem, h.fr, h.ex0, h.exn, h.t0, h.tb, h.tr, fun b B hb => ⟨(h.fb b B hb).1, by rw [St.put_len]; exact (h.fb b B hb).2⟩⟩
    simp only [St.put, Act.put, List.getElem?_set, Array.getElem?_setIfInBounds] at hg hv
    by_cases e : d = i
    · subst e
      rw [if_pos rfl] at hg hv
      split at hg
      · rename_i hlt
        rw [if_pos (by rw [h.sz]; exact hlt)] at hv
        cases hg; cases hv; exact hr
      · cases hg
    · rw [if_neg e] at hg hv
      exact h.slots i g' v' hg hv

theorem resolve_fn {P : Program} {w : World} {ρ : Operand → Value} {f : Operand} {args : Array Operand} {ats : Array TypeId} {ty : TypeId} {n : FuncId} {caps : Array Value} (hf : ρ f = .func (.func n) #[] caps) :
    (resolve ρ { callee := .value f, args, argTypes := ats } ty).run P w = .ok { target := .fn (.func n) caps, args := args.map ρ } w := by
  unfold resolve
  simp only [hf, Deferred.ofValue, Sem.run_pure]
  simp
theorem resolve_meth {P : Program} {w : World} {ρ : Operand → Value} {f : Operand} {args : Array Operand} {ats : Array TypeId} {ty : TypeId} {n : FuncId} {first : Array Value} (hf : ρ f = .func (.func n) first #[]) :
    (resolve ρ { callee := .value f, args, argTypes := ats } ty).run P w = .ok { target := .fn (.func n) #[], args := first ++ args.map ρ } w := by
  unfold resolve
  simp only [hf, Deferred.ofValue, Sem.run_pure]
theorem run_callFunc {P : Program} {f : FuncId} (h : hasBody P f = true) (args : Array Value) (w : World) : (callFunc f args).run P w = .ok (.enter f args) w := by
  unfold hasBody at h
  split at h
  · rename_i fn hfn
    simp only [Bool.and_eq_true, bne_iff_ne] at h
    unfold callFunc
    simp only [Sem.run_bind, run_program, Result.andThen_ok, hfn]
    have h2 : fn.body.isNone = false := by
      cases hb : fn.body with
      | none => rw [hb] at h; simp at h
      | some _ => rfl
    simp [h.1, h2]
  · cases h

theorem call_sound {P : Program} {f : FuncId} {d : Nat} {gs : List G} {st : St} {k : G → St → Prop} {C : Cx} {F : Fd} {a : Act} {w : World} (h : callP P d f gs st k) (hi : Inv C F st a w) {vs : List Value} (hl : vs.length = gs.length)
    (hr : ∀ (i : Nat) g v, gs[i]? = some g → vs[i]? = some v → Rep C w g v) : hasBody P f = true ∧ Calls P f ⟨vs⟩ w fun e w' => ∃ v, e = .returned v ∧ After F k a v w' := by
  unfold callP at h
  cases hc : gs.all G.closed with
  | false =>
    rw [hc] at h
    rcases h with h | h
    · exact lend_sound h hi hl hr
    · exact place_sound h hi hl hr
  | true =>
    rw [hc] at h
    rcases h with h | h
    case inr => exact place_sound h hi hl hr
    obtain ⟨g, ⟨hb, hF⟩, h⟩ := h
    refine ⟨hb, ?_⟩
    cases hg : g.closedR with
    | false => rw [hg] at h; exact h.elim
    | true =>
      rw [hg] at h
      simp only [List.all_eq_true] at hc
      let C0 : Cx := { box := fun _ => none, row := fun _ => none, ex := C.ex }
      refine (hF C0 w (fun _ => False) _ hl (fun i g' v' hg' hv' => (hr i g' v' hg' hv').closed (hc _ (List.mem_of_getElem? hg')) (Keeps.refl _ _) (fun _ _ h => h)) (mem0 w C.ex hi.mem.lt) (fun _ h => h.elim) (fun _ _ h => (by cases h)) (fun _ _ _ _ _ h => (by cases h)) hi.fixed).mono fun e w' he => ?_
      obtain ⟨v, C', g', bs', rs', rfl, ⟨rfl, rfl, rfl⟩, hR, hM, hE⟩ := he
      refine ⟨v, rfl, C, g', st, h, ?_, ?_⟩
      · have hKeeps : Keeps C.ex w w' := ⟨hE.fr.size, fun B hB _ => hE.fr.block B hB (fun h => h)⟩
        have hlt : ∀ B, C.ex B → w'.heap[B]? = w.heap[B]? := fun B hB => hE.fr.block B (hi.mem.lt B hB) (fun h => h)
        exact hi.step ⟨hE.fr.os.trans hi.fr.os, hE.fr.tape.trans hi.fr.tape, hE.fr.output.trans hi.fr.output, Nat.le_trans hi.fr.size hE.fr.size, fun B hB hn => (hE.fr.block B (by have := hi.fr.size; omega) (fun h => h)).trans (hi.fr.block B hB hn)⟩
          hKeeps (fun b B hB => hlt B (hi.mem.ltB hB)) (fun k B s sz n hk => hlt B (hi.mem.ltR hk)) C.ex (fun _ h => h) (fun _ h => .inl h) (fun B hB => by have := hi.mem.lt B hB; have := hE.fr.size; omega)
      · exact hR.closedR hg (Keeps.refl _ _) (fun B hB hn hx => hn (hE.ex B hx))

theorem cop_sound {P : Program} {o : Oper} {d : Nat} {st : St} {k : G → St → Prop} {C : Cx} {F : Fd} {a : Act} {w : World} (h : cop P d o st k) (hi : Inv C F st a w) {K : Act → World → Prop} {Q : Exit → Act → World → Prop}
    (hk : ∀ v w', After F k a v w' → K (a.put o.dst v) w') : o.wp P a w K Q := by
  unfold cop at h
  split at h
  · rename_i f args ats hop
    split at h
    · rename_i n caps hf
      rw [fS_eq] at h
      have hr := hi.ev f
      rw [hf] at hr
      generalize hv : a.eval f = v at hr
      cases hr with
      | fn _ _ vs hl hcap =>
        obtain ⟨hb, hcall⟩ := call_sound h hi (vs := args.toList.map a.eval ++ vs) (by simp [hl]) (fun i g' v' hg' hv' => by
          by_cases hlt : i < args.toList.length
          · rw [List.getElem?_append_left (by simpa using hlt)] at hg' hv'
            rw [List.getElem?_map] at hg' hv'
            obtain ⟨x, hx, rfl⟩ := Option.map_eq_some_iff.1 hg'
            rw [hx] at hv'
            obtain rfl := Option.some.inj hv'
            exact hi.ev x
          · rw [List.getElem?_append_right (by simp at hlt ⊢; omega)] at hg' hv'
            simp only [List.length_map] at hg' hv'
            exact hcap _ g' v' hg' hv')
        unfold Oper.wp
        have e0 : (execOp a.eval o).run P w = .ok (.enter n (⟨args.toList.map a.eval ++ vs⟩)) w := by
          obtain ⟨dst, op, ty, pos, aft, gd⟩ := o
          simp only at hop; subst hop
          simp only [execOp]
          rw [Sem.run_bind, resolve_fn hv, Result.andThen_ok]
          simp only [invoke]
          rw [run_callFunc hb]
          congr 2
          apply Array.toList_inj.1; simp
        rw [e0]
        simp only [Oper.upon]
        refine hcall.mono fun e w' ⟨v, he, hA⟩ => ?_
        subst he
        exact hk v w' hA
    · rename_i n gs0 hf
      rw [fS_eq] at h
      have hr := hi.ev f
      rw [hf] at hr
      generalize hv : a.eval f = v at hr
      cases hr with
      | meth _ _ vs hl hcap =>
        obtain ⟨hb, hcall⟩ := call_sound h hi (vs := vs ++ args.toList.map a.eval) (by simp [hl]) (fun i g' v' hg' hv' => by
          by_cases hlt : i < gs0.length
          · rw [List.getElem?_append_left hlt] at hg'
            rw [List.getElem?_append_left (by rw [hl]; exact hlt)] at hv'
            exact hcap _ g' v' hg' hv'
          · rw [List.getElem?_append_right (by omega)] at hg'
            rw [List.getElem?_append_right (by rw [hl]; omega), hl] at hv'
            rw [List.getElem?_map] at hg' hv'
            obtain ⟨x, hx, rfl⟩ := Option.map_eq_some_iff.1 hg'
            rw [hx] at hv'
            obtain rfl := Option.some.inj hv'
            exact hi.ev x)
        unfold Oper.wp
        have e0 : (execOp a.eval o).run P w = .ok (.enter n (⟨vs ++ args.toList.map a.eval⟩)) w := by
          obtain ⟨dst, op, ty, pos, aft, gd⟩ := o
          simp only at hop; subst hop
          simp only [execOp]
          rw [Sem.run_bind, resolve_meth hv, Result.andThen_ok]
          simp only [invoke]
          rw [run_callFunc hb]
          congr 2
          apply Array.toList_inj.1; simp
        rw [e0]
        simp only [Oper.upon]
        refine hcall.mono fun e w' ⟨v, he, hA⟩ => ?_
        subst he
        exact hk v w' hA
    · exact h.elim
  · rename_i args ats hop
    split at h
    · rename_i s x tS tX heq ht0 ht1
      obtain ⟨X, Y, hX, rfl, rfl⟩ : ∃ X Y, args.toList = [X, Y] ∧ st.ev X = s ∧ st.ev Y = x := by
        match hq : args.toList, heq with
        | [X, Y], heq => simp at heq; exact ⟨X, Y, rfl, heq.1, heq.2⟩
      obtain ⟨z, w', h1, h2⟩ := app_sound h hi (hi.ev X) (hi.ev Y) (argTypes := ats) (ty := o.type) ht0 ht1
      refine Goes.wp (R := After F k a) ⟨z, w', .inl ?_, h2⟩ hk
      obtain ⟨dst, op, ty, pos, aft, gd⟩ := o
      simp only at hop; subst hop
      have e1 : args.map a.eval = #[a.eval X, a.eval Y] := by apply Array.toList_inj.1; simp [hX]
      simp only [execOp, resolve, Sem.run_bind, Sem.run_pure, Result.andThen_ok, invoke, builtin, e1]
      simp only at h1
      rw [h1]; rfl
    · exact h.elim
  · exact (xop_sound h hi).wp hk

noncomputable def dstAt (l : List Oper) : Nat → Option Tmp := List.rec (motive := fun _ => Nat → Option Tmp) (fun _ => none) (fun o _ ih n => Nat.rec (motive := fun _ => Option Tmp) o.dst (fun m _ => ih m) n) l
theorem dstAt_list : ∀ (l : List Oper) (j : Nat), dstAt l j = (l[j]?).bind (·.dst)
  | [], j => by show none = _; simp
  | o :: r, 0 => by show o.dst = _; simp
  | o :: r, n + 1 => by show dstAt r n = _; simp [dstAt_list r n]
theorem dstAt_eq (ops : Array Oper) (j : Nat) : dstAt ops.toList j = (ops[j]?).bind (·.dst) := by rw [dstAt_list]; simp

/-- Operations that leave variables and rows as they are. -/
def stills : Op → Bool
  | .alloc _ | .box .. | .store .. | .makeSlice .. | .call { callee := .builtin .append, .. } => false
  | _ => true
/-- Operations one behind the other. A test by which an operation is guarded is told in each branch. -/
def aopsF (P : Program) (ops : Array Oper) (o : Oper) (ih : St → (St → Prop) → Prop) (st : St) (K : St → Prop) : Prop :=
    match o.guard with
    | none => cop P (o.dst.getD 0) o st fun g st' => st'.next (stills o.op) o.dst g fun st' => ih st' K
    | some (j, want) => match dstAt ops.toList j with
      | none => False
      | some t => match st.slots.getD t .junk with
        | .bool b => bif b then (bif want then st.next true (some t) (.bool true) fun st => cop P (o.dst.getD 0) o st fun g st' => st'.next (stills o.op) o.dst g fun st' => ih st' K else (st.put (some t) (.bool true)).next true o.dst .und fun st' => ih st' K)
            else (bif want then (st.put (some t) (.bool false)).next true o.dst .und fun st' => ih st' K else st.next true (some t) (.bool false) fun st => cop P (o.dst.getD 0) o st fun g st' => st'.next (stills o.op) o.dst g fun st' => ih st' K)
        | .und => st.next true o.dst .und fun st' => ih st' K
        | _ => False
/-- (By the recursor itself: what Lean's front works out, and what the kernel does, then is the same term.) -/
def aops (P : Program) (ops : Array Oper) (l : List Oper) : St → (St → Prop) → Prop :=
  List.rec (motive := fun _ => St → (St → Prop) → Prop) (fun st K => st.force K) (fun o _ ih => aopsF P ops o ih) l

theorem Inv.slot {C : Cx} {F : Fd} {st : St} {a : Act} {w : World} (h : Inv C F st a w) {t : Nat} {b : Bool} (hs : st.slots.getD t .junk = .bool b) : st.slots[t]? = some (.bool b) ∧ a.tmps[t]? = some (.bool b) := by
  rw [List.getD_eq_getElem?_getD] at hs
  cases hx : st.slots[t]? with
  | none => rw [hx] at hs; cases hs
  | some g =>
    rw [hx] at hs
    obtain rfl : g = .bool b := hs
    have hlt : t < a.tmps.size := by rw [h.sz]; exact (List.getElem?_eq_some_iff.1 hx).1
    have hv : a.tmps[t]? = some a.tmps[t] := Array.getElem?_eq_getElem hlt
    refine ⟨rfl, ?_⟩
    rw [hv, (h.slots t _ _ hx hv).bool_inv]

theorem Inv.undAt {C : Cx} {F : Fd} {st : St} {a : Act} {w : World} (h : Inv C F st a w) {t : Nat} (hs : st.slots.getD t .junk = .und) : a.tmps[t]? = some undef := by
  rw [List.getD_eq_getElem?_getD] at hs
  cases hx : st.slots[t]? with
  | none => rw [hx] at hs; cases hs
  | some g =>
    rw [hx] at hs
    simp at hs
    subst hs
    have hlt : t < a.tmps.size := by rw [h.sz]; exact (List.getElem?_eq_some_iff.1 hx).1
    have hr := h.slots t _ a.tmps[t] hx (Array.getElem?_eq_getElem hlt)
    rw [Array.getElem?_eq_getElem hlt]
    generalize a.tmps[t] = v at hr
    cases hr
    rfl
theorem Inv.same {C : Cx} {F : Fd} {st : St} {a : Act} {w : World} (h : Inv C F st a w) {t : Nat} {b : Bool} (hs : st.slots.getD t .junk = .bool b) : Inv C F (st.put (some t) (.bool b)) a w := by
  obtain ⟨h1, _⟩ := h.slot hs
  have e : st.put (some t) (.bool b) = st := by
    unfold St.put
    have : st.slots.set t (.bool b) = st.slots := by
      apply List.ext_getElem?
      intro i
      by_cases e : t = i
      · subst e; rw [List.getElem?_set_self (List.getElem?_eq_some_iff.1 h1).1, h1]
      · rw [List.getElem?_set_ne e]
    simp only [this]
  rw [e]; exact h

theorem aops_sound {P : Program} {ops : Array Oper} {F : Fd} {K : St → Prop} {Q : Exit → Act → World → Prop} (hQ : ∀ C st a w, K st → Inv C F st a w → Q .normal a w) :
    ∀ (l : List Oper) (st : St) (C : Cx) (a : Act) (w : World), aops P ops l st K → Inv C F st a w → wpList P ops Q l a w
  | [], st, C, a, w, h, hi => hQ C st a w (by change st.force K at h; rwa [St.force_eq] at h) hi
  | o :: rest, st, C, a, w, h, hi => by
    have ih := aops_sound hQ (P := P) (ops := ops) rest
    have run : ∀ st : St, Inv C F st a w → cop P (o.dst.getD 0) o st (fun g st' => aops P ops rest (st'.put o.dst g) K) → o.wp P a w (wpList P ops Q rest) Q := fun st hi h =>
      cop_sound h hi fun v w' ⟨C', g, st', h1, h2, h3⟩ => ih (st'.put o.dst g) C' (a.put o.dst v) w' h1 (h2.put o.dst h3)
    change aopsF P ops o (aops P ops rest) st K at h
    unfold aopsF at h
    simp only [St.next_eq] at h
    unfold wpList
    split at h
    · rename_i hg
      rw [if_pos (by simp [Region.wanted, hg])]
      exact .inl (run st hi h)
    · rename_i j want hg
      split at h
      · exact h.elim
      · rename_i t ht
        rw [dstAt_eq] at ht
        split at h
        · rename_i b hs
          have hy : yielded ops a.tmps j = some b := by
            unfold yielded
            rw [ht]; simp only [Option.bind_some, (hi.slot hs).2]
          cases b <;> cases want <;> simp only [cond_true, cond_false] at h
          · rw [if_pos (by simp [Region.wanted, hg, hy])]
            exact .inl (run _ (hi.same hs) h)
          · rw [if_neg (by simp [Region.wanted, hg, hy])]
            exact ih _ C _ w h ((hi.same hs).put o.dst .und)
          · rw [if_neg (by simp [Region.wanted, hg, hy])]
            exact ih _ C _ w h ((hi.same hs).put o.dst .und)
          · rw [if_pos (by simp [Region.wanted, hg, hy])]
            exact .inl (run _ (hi.same hs) h)
        · rename_i hs
          have hy : yielded ops a.tmps j = none := by
            unfold yielded
            rw [ht]
            simp only [Option.bind_some]
            rw [hi.undAt hs]; rfl
          rw [if_neg (by simp [Region.wanted, hg, hy])]
          exact ih _ C _ w h (hi.put o.dst .und)
        · exact h.elim

/-- From the state st the code comes to K, on the machine. -/
def HasD (P : Program) (c : Code) (st : St) (K : Exit → St → Prop) : Prop :=
  ∀ (C : Cx) (F : Fd) (a : Act) (w : World), Inv C F st a w → c.wp P (fun e a' w' => ∃ C' st', K e st' ∧ Inv C' F st' a' w') a w

theorem HasD.mono {P : Program} {c : Code} {st : St} {K K' : Exit → St → Prop} (h : HasD P c st K) (hk : ∀ e st, K e st → K' e st) : HasD P c st K' :=
  fun C F a w hi => wp_mono (h C F a w hi) fun e a' w' ⟨C', st', h1, h2⟩ => ⟨C', st', hk e st' h1, h2⟩
theorem HasD.seq {P : Program} {x y : Code} {st : St} {K : Exit → St → Prop} (h : HasD P x st fun e st' => match e with | .normal => HasD P y st' K | e => K e st') : HasD P (.seq x y) st K :=
  fun C F a w hi => wp_seq (wp_mono (h C F a w hi) fun e a' w' ⟨C', st', h1, h2⟩ => by
    cases e with
    | normal => exact h1 C' F a' w' h2
    | _ => exact ⟨C', st', h1, h2⟩)
theorem HasD.block {P : Program} {id : Nat} {c : Code} {st : St} {K : Exit → St → Prop} (h : HasD P c st fun e st' => match e with | .exit id' => if id' = id then K .normal st' else K (.exit id') st' | e => K e st') : HasD P (.block id c) st K :=
  fun C F a w hi => wp_block (wp_mono (h C F a w hi) fun e a' w' ⟨C', st', h1, h2⟩ => by
    cases e with
    | exit id' =>
      simp only [Exit.inBlock]
      simp only at h1
      split
      · rename_i e; rw [if_pos e] at h1; exact ⟨C', st', h1, h2⟩
      · rename_i e; rw [if_neg e] at h1; exact ⟨C', st', h1, h2⟩
    | _ => exact ⟨C', st', h1, h2⟩)
theorem HasD.cond {P : Program} {c : Operand} {x y : Code} {st : St} {K : Exit → St → Prop} {t : Bool} (hc : st.ev c = .bool t) (h1 : t = true → HasD P x st K) (h2 : t = false → HasD P y st K) : HasD P (.cond c x y) st K :=
  fun C F a w hi => by
    have hr := hi.ev c
    rw [hc] at hr
    exact wp_cond_split hr.bool_inv (fun e => h1 e C F a w hi) (fun e => h2 e C F a w hi)
theorem HasD.region {P : Program} {id : Nat} {ops : Array Oper} {st : St} {K : Exit → St → Prop} (h : aops P ops ops.toList st (K .normal)) : HasD P (.region id ops false) st K :=
  fun C F a w hi => wp_region_list (aops_sound (fun C st a w h1 h2 => ⟨C, st, h1, h2⟩) ops.toList st C a w h hi)

/-- Slots that are looked at no more. -/
def keepAt (L : List Nat) : Nat → List G → List G
  | _, [] => []
  | i, g :: gs => (bif L.contains i then g else .junk) :: keepAt L (i + 1) gs
def St.keep (st : St) (L : List Nat) : St := { st with slots := keepAt L 0 st.slots }
theorem keepAt_len (L : List Nat) : ∀ (gs : List G) (i : Nat), (keepAt L i gs).length = gs.length
  | [], _ => rfl
  | g :: gs, i => by simp [keepAt, keepAt_len L gs (i + 1)]
theorem keepAt_get (L : List Nat) : ∀ (gs : List G) (i j : Nat) (g : G), (keepAt L i gs)[j]? = some g → g = .junk ∨ gs[j]? = some g
  | [], i, j, g, h => by simp [keepAt] at h
  | x :: gs, i, 0, g, h => by
    simp only [keepAt, List.getElem?_cons_zero, Option.some.injEq] at h
    cases hc : L.contains i with
    | true => rw [hc] at h; exact .inr (by simpa using h)
    | false => rw [hc] at h; exact .inl h.symm
  | x :: gs, i, j + 1, g, h => by
    simp only [keepAt, List.getElem?_cons_succ] at h
    simpa using keepAt_get L gs (i + 1) j g h
theorem Inv.keep {C : Cx} {F : Fd} {st : St} {a : Act} {w : World} (h : Inv C F st a w) (L : List Nat) : Inv C F (st.keep L) a w :=
  ⟨h.nd, by simp [St.keep, keepAt_len, h.sz], fun i g v hg hv => by
    rcases keepAt_get L _ _ _ _ hg with rfl | hg
    · exact .junk _
    · exact h.slots i g v hg hv, h.mem, h.fr, h.ex0, h.exn, h.t0, h.tb, h.tr, fun b B hb => ⟨(h.fb b B hb).1, by show (keepAt L 0 st.slots).length + 8 ≤ b; rw [keepAt_len]; exact (h.fb b B hb).2⟩⟩

/-- A loop: J tells the states at its head, with a number that goes down; slots beside L are looked at no more. -/
theorem HasD.loop {P : Program} {c : Code} {st : St} {K : Exit → St → Prop} (L : List Nat) (J : Nat → St → Prop) (n : Nat) (h0 : J n (st.keep L))
    (h : ∀ n st, J n st → HasD P c st fun e st' => match e with | .normal => ∃ m, m < n ∧ J m (st'.keep L) | e => K e st') : HasD P (.loop c) st K := by
  intro C F a w hi
  have key : ∀ n C a w st, J n st → Inv C F st a w → (Code.rounds P c (fun e a' w' => ∃ C' st', K e st' ∧ Inv C' F st' a' w') (n + 1) a w) := by
    intro n
    induction n using Nat.strongRecOn with
    | _ n ih =>
      intro C a w st hJ hi
      rw [rounds_succ]
      refine wp_mono (h n st hJ C F a w hi) fun e a' w' ⟨C', st', h1, h2⟩ => ?_
      cases e with
      | normal =>
        obtain ⟨m, hm, hJ'⟩ := h1
        have := ih m hm C' a' w' _ hJ' (h2.keep L)
        show Code.rounds P c _ n a' w'
        have up : ∀ (m n : Nat) (a : Act) (w : World), m ≤ n → Code.rounds P c (fun e a' w' => ∃ C' st', K e st' ∧ Inv C' F st' a' w') m a w → Code.rounds P c (fun e a' w' => ∃ C' st', K e st' ∧ Inv C' F st' a' w') n a w := by
          intro m
          induction m with
          | zero => intro n a w _ h; exact h.elim
          | succ m ihm =>
            intro n a w hle h
            obtain ⟨n, rfl⟩ : ∃ q, n = q + 1 := ⟨n - 1, by omega⟩
            refine wp_mono h fun e a w he => ?_
            cases e with
            | normal => exact ihm n a w (by omega) he
            | _ => exact he
        exact up (m + 1) n a' w' (by omega) this
      | _ => exact ⟨C', st', h1, h2⟩
  exact wp_loop_rounds (n + 1) (key n C a w _ h0 (hi.keep L))

/-- The same, as a thing that the walk does not take apart. -/
structure Has (P : Program) (c : Code) (st : St) (K : Exit → St → Prop) : Prop where
  out : HasD P c st K
theorem Has.mono {P : Program} {c : Code} {st : St} {K K' : Exit → St → Prop} (h : Has P c st K) (hk : ∀ e st, K e st → K' e st) : Has P c st K' := ⟨h.out.mono hk⟩
theorem Has.loop {P : Program} {c : Code} {st : St} {K : Exit → St → Prop} (L : List Nat) (J : Nat → St → Prop) (n : Nat) (h0 : J n (st.keep L))
    (h : ∀ n st, J n st → Has P c st fun e st' => match e with | .normal => ∃ m, m < n ∧ J m (st'.keep L) | e => K e st') : Has P (.loop c) st K := ⟨HasD.loop L J n h0 fun n st hJ => (h n st hJ).out⟩
/-- Own things given up: variable b, or (from 1000 on) row b - 1000. -/
def St.drop (s : St) (b : Nat) : St := bif Nat.blt b 1000 then bif Nat.blt b (s.slots.length + 8) then s.killB b else s else s.killR (b - 1000)
/-- The state at a loop's head: slots beside L are looked at no more, variables of D are forgotten. -/
def St.at (st : St) (L D : List Nat) : St := D.foldl (fun s b => s.drop b) (st.keep L)
theorem Inv.at {C : Cx} {F : Fd} {st : St} {a : Act} {w : World} (h : Inv C F st a w) (L D : List Nat) : ∃ C', Inv C' F (st.at L D) a w := by
  unfold St.at
  have key : ∀ (D : List Nat) (st : St) (C : Cx), Inv C F st a w → ∃ C', Inv C' F (D.foldl (fun s b => s.drop b) st) a w := by
    intro D
    induction D with
    | nil => intro st C h; exact ⟨C, h⟩
    | cons b D ih =>
      intro st C h
      rw [List.foldl_cons]
      unfold St.drop
      cases hr : Nat.blt b 1000 with
      | false => exact ih _ _ (h.killR (b - 1000))
      | true =>
        cases hb : Nat.blt b (st.slots.length + 8) with
        | true => exact ih _ _ (h.killB b (Nat.le_of_ble_eq_true hb))
        | false => exact ih _ _ h
  exact key D _ C (h.keep L)
theorem Has.loopD {P : Program} {c : Code} {st : St} {K : Exit → St → Prop} (L D : List Nat) (J : Nat → St → Prop) (n : Nat) (h0 : J n (st.at L D))
    (h : ∀ n st, J n st → Has P c st fun e st' => match e with | .normal => ∃ m, m < n ∧ J m (st'.at L D) | e => K e st') : Has P (.loop c) st K := by
  refine ⟨fun C F a w hi => ?_⟩
  have key : ∀ n C a w st, J n st → Inv C F st a w → (Code.rounds P c (fun e a' w' => ∃ C' st', K e st' ∧ Inv C' F st' a' w') (n + 1) a w) := by
    intro n
    induction n using Nat.strongRecOn with
    | _ n ih =>
      intro C a w st hJ hi
      rw [rounds_succ]
      refine wp_mono ((h n st hJ).out C F a w hi) fun e a' w' ⟨C', st', h1, h2⟩ => ?_
      cases e with
      | normal =>
        obtain ⟨m, hm, hJ'⟩ := h1
        obtain ⟨C2, h2'⟩ := h2.at L D
        have := ih m hm C2 a' w' _ hJ' h2'
        show Code.rounds P c _ n a' w'
        have up : ∀ (m n : Nat) (a : Act) (w : World), m ≤ n → Code.rounds P c (fun e a' w' => ∃ C' st', K e st' ∧ Inv C' F st' a' w') m a w → Code.rounds P c (fun e a' w' => ∃ C' st', K e st' ∧ Inv C' F st' a' w') n a w := by
          intro m
          induction m with
          | zero => intro n a w _ h; exact h.elim
          | succ m ihm =>
            intro n a w hle h
            obtain ⟨n, rfl⟩ : ∃ q, n = q + 1 := ⟨n - 1, by omega⟩
            refine wp_mono h fun e a w he => ?_
            cases e with
            | normal => exact ihm n a w (by omega) he
            | _ => exact he
        exact up (m + 1) n a' w' (by omega) this
      | _ => exact ⟨C', st', h1, h2⟩
  obtain ⟨C2, h2⟩ := hi.at L D
  exact wp_loop_rounds (n + 1) (key n C2 a w _ h0 h2)
theorem cond_f {b : Bool} {A : Prop} (h : b = false) (hA : A) : cond b False A := by rw [h]; exact hA
theorem cond_t {b : Bool} {A : Prop} (h : b = true) (hA : A) : cond b A False := by rw [h]; exact hA
theorem cond_i {t : Bool} {A B : Prop} (h1 : t = true → A) (h2 : t = false → B) : cond t A B := by cases t; exact h2 rfl; exact h1 rfl
end Go.Proofs.YtfacmphjplablaaDoor.Av
namespace Go.Proofs.YtfacmphjplablaaDoor.Av
open Go Go.RowKit
set_option linter.unusedVariables false
set_option linter.unusedSimpArgs false

/-- What an operation does, and where it looks. -/
structure Tr where
  dst : Option Nat
  g : G
  wr : Option (Nat × Nat × List G)
  nb : Option (Nat × List G)
  look : List Nat
  rb : Option (Nat × Nat × Nat)
  rr : Bool

def Tr.app (t : Tr) (st : St) : St :=
  { slots := match t.dst with | some d => st.slots.set d t.g | none => st.slots
    boxes := match t.nb with
      | some (b, cs) => st.boxes.set b (some cs)
      | none => match t.wr with
        | some (b, off, cs) => st.boxes.modify b (Option.map fun old => blit old off cs)
        | none => st.boxes
    rows := st.rows }

def disj (o n o' n' : Nat) : Bool := Nat.ble (o + n) o' || Nat.ble (o' + n') o
/-- What u writes, t neither looks at nor writes. -/
def Tr.away (t u : Tr) : Bool :=
  (match u.dst with
   | some d => !t.look.contains d && t.dst != some d
   | none => true) &&
  (match u.nb with
   | some (b, _) => (match t.rb with | some (b', _, _) => b' != b | none => true) && (match t.wr with | some (b', _, _) => b' != b | none => true) && (match t.nb with | some (b', _) => b' != b | none => true)
   | none => match u.wr with
     | some (b, o, cs) => (match t.rb with | some (b', o', n') => b' != b || disj o cs.length o' n' | none => true) && (match t.wr with | some (b', o', cs') => b' != b || disj o cs.length o' cs'.length | none => true) &&
         (match t.nb with | some (b', _) => b' != b | none => true)
     | none => true)
def Tr.apart (t u : Tr) : Bool := t.away u && u.away t

/-- The cells that t reads, the variable that it writes to. -/
def rng (st : St) (b o n : Nat) : Option (List G × Nat) := (st.boxes.getD b none).map fun cs => ((cs.drop o).take n, cs.length)
structure Tr.Same (t : Tr) (s s' : St) : Prop where
  rows : t.rr = true → s.rows = s'.rows
  look : ∀ d ∈ t.look, s.slots.getD d .junk = s'.slots.getD d .junk
  rb : ∀ b o n, t.rb = some (b, o, n) → rng s b o n = rng s' b o n
  wr : ∀ b o cs, t.wr = some (b, o, cs) → (s.boxes.getD b none).map List.length = (s'.boxes.getD b none).map List.length
  nb : ∀ b cs, t.nb = some (b, cs) → (s.boxes.getD b none).isNone = (s'.boxes.getD b none).isNone
  lenS : s.slots.length = s'.slots.length
  lenB : (t.wr.isSome || t.nb.isSome || t.rb.isSome) = true → s.boxes.length = s'.boxes.length

theorem Tr.Same.refl (t : Tr) (s : St) : t.Same s s := ⟨fun _ => rfl, fun _ _ => rfl, fun _ _ _ _ => rfl, fun _ _ _ _ => rfl, fun _ _ _ => rfl, rfl, fun _ => rfl⟩
theorem Tr.Same.trans {t : Tr} {a b c : St} (h : t.Same a b) (k : t.Same b c) : t.Same a c :=
  ⟨fun e => (h.rows e).trans (k.rows e), fun d hd => (h.look d hd).trans (k.look d hd), fun b o n e => (h.rb b o n e).trans (k.rb b o n e), fun b o cs e => (h.wr b o cs e).trans (k.wr b o cs e), fun b cs e => (h.nb b cs e).trans (k.nb b cs e), h.lenS.trans k.lenS, fun e => (h.lenB e).trans (k.lenB e)⟩
theorem Tr.Same.symm {t : Tr} {a b : St} (h : t.Same a b) : t.Same b a :=
  ⟨fun e => (h.rows e).symm, fun d hd => (h.look d hd).symm, fun b o n e => (h.rb b o n e).symm, fun b o cs e => (h.wr b o cs e).symm, fun b cs e => (h.nb b cs e).symm, h.lenS.symm, fun e => (h.lenB e).symm⟩

theorem getD_set {α : Type} (xs : List α) (i j : Nat) (x d : α) : (xs.set i x).getD j d = if i = j ∧ i < xs.length then x else xs.getD j d := by
  rw [List.getD_eq_getElem?_getD, List.getD_eq_getElem?_getD, List.getElem?_set]
  by_cases h : i = j
  · subst h
    by_cases h2 : i < xs.length
    · simp [h2]
    · simp [h2]
  · simp [h]
theorem getD_modify {α : Type} (xs : List (Option α)) (i j : Nat) (f : Option α → Option α) (hf : f none = none) : (xs.modify i f).getD j none = if i = j then f (xs.getD j none) else xs.getD j none := by
  rw [List.getD_eq_getElem?_getD, List.getD_eq_getElem?_getD, List.getElem?_modify]
  by_cases h : i = j
  · subst h
    simp only [if_true]
    cases hx : xs[i]? <;> simp [hf]
  · simp only [h, if_false]
    cases xs[j]? <;> simp

theorem app_boxD (u : Tr) (st : St) (b : Nat) : ((u.app st).boxes.getD b none) = (match u.nb with
    | some (b', cs) => if b' = b ∧ b' < st.boxes.length then some cs else st.boxes.getD b none
    | none => match u.wr with
      | some (b', off, cs) => if b' = b then (st.boxes.getD b none).map (fun old => blit old off cs) else st.boxes.getD b none
      | none => st.boxes.getD b none) := by
  unfold Tr.app
  cases u.nb with
  | some p => obtain ⟨b', cs⟩ := p; exact getD_set _ _ _ _ _
  | none =>
    cases u.wr with
    | some p => obtain ⟨b', off, cs⟩ := p; exact getD_modify _ _ _ _ rfl
    | none => rfl
theorem app_slotD (u : Tr) (st : St) (d : Nat) : (u.app st).slots.getD d .junk = (match u.dst with | some e => if e = d ∧ e < st.slots.length then u.g else st.slots.getD d .junk | none => st.slots.getD d .junk) := by
  unfold Tr.app
  cases u.dst with
  | some e => exact getD_set _ _ _ _ _
  | none => rfl
theorem app_lenS (u : Tr) (st : St) : (u.app st).slots.length = st.slots.length := by unfold Tr.app; cases u.dst <;> simp
theorem app_lenB (u : Tr) (st : St) : (u.app st).boxes.length = st.boxes.length := by
  unfold Tr.app
  cases u.nb with
  | some p => obtain ⟨b', cs⟩ := p; simp
  | none => cases u.wr with
    | some p => obtain ⟨b', off, cs⟩ := p; simp
    | none => rfl

theorem blit_part {α : Type} (us xs : List α) (p o n : Nat) (h : disj p us.length o n = true) : ((blit xs p us).drop o).take n = (xs.drop o).take n := by
  induction us generalizing xs p with
  | nil => rw [blit_nil]
  | cons u us ih =>
    rw [blit_cons]
    simp only [disj, Bool.or_eq_true, List.length_cons] at h
    have key : ((xs.set p u).drop o).take n = (xs.drop o).take n := by
      apply List.ext_getElem?
      intro i
      rw [List.getElem?_take, List.getElem?_take]
      split
      · rw [List.getElem?_drop, List.getElem?_drop, List.getElem?_set_ne]
        rcases h with h | h <;> have h := Nat.le_of_ble_eq_true h <;> omega
      · rfl
    rw [ih, key]
    simp only [disj, Bool.or_eq_true]
    rcases h with h | h
    · have h := Nat.le_of_ble_eq_true h
      exact .inl (Nat.ble_eq_true_of_le (by omega))
    · have h := Nat.le_of_ble_eq_true h
      exact .inr (Nat.ble_eq_true_of_le (by omega))
theorem blit_like {α : Type} (us xs ys : List α) (p o n : Nat) (h : (xs.drop o).take n = (ys.drop o).take n) (hl : xs.length = ys.length) : ((blit xs p us).drop o).take n = ((blit ys p us).drop o).take n := by
  induction us generalizing xs ys p with
  | nil => rw [blit_nil, blit_nil]; exact h
  | cons u us ih =>
    rw [blit_cons, blit_cons]
    refine ih _ _ _ ?_ (by simp [hl])
    apply List.ext_getElem?
    intro i
    have hi := congrArg (fun l => l[i]?) h
    simp only [List.getElem?_take, List.getElem?_drop] at hi ⊢
    split
    · rename_i hlt
      rw [if_pos hlt, if_pos hlt] at hi
      rw [List.getElem?_set, List.getElem?_set, hl, hi]
    · rfl
/-- What u did, it does in like states alike. -/
theorem Tr.Same.app {t : Tr} {s s' : St} (h : t.Same s s') (u : Tr) : t.Same (u.app s) (u.app s') := by
  have bx : ∀ b, (match u.nb with | some (b', cs) => (b' = b) | none => match u.wr with | some (b', off, cs) => b' = b | none => False) ∨ ((u.app s).boxes.getD b none = s.boxes.getD b none ∧ (u.app s').boxes.getD b none = s'.boxes.getD b none) := fun b => by
    rw [app_boxD, app_boxD]
    cases hn : u.nb with
    | some p =>
      obtain ⟨b', cs⟩ := p
      by_cases e : b' = b
      · exact .inl e
      · exact .inr (by simp [e])
    | none =>
      cases hw : u.wr with
      | some p =>
        obtain ⟨b', off, cs⟩ := p
        by_cases e : b' = b
        · exact .inl e
        · exact .inr (by simp [e])
      | none => exact .inr ⟨rfl, rfl⟩
  refine ⟨h.rows, fun d hd => ?_, fun b o n e => ?_, fun b o cs e => ?_, fun b cs e => ?_, by rw [app_lenS, app_lenS, h.lenS], fun e => by rw [app_lenB, app_lenB, h.lenB e]⟩
  · rw [app_slotD, app_slotD]
    cases u.dst with
    | some e => simp only [h.lenS, h.look d hd]
    | none => exact h.look d hd
  · have hb := h.rb b o n e
    unfold rng at hb ⊢
    rw [app_boxD, app_boxD]
    cases hn : u.nb with
    | some p =>
      obtain ⟨b', cs⟩ := p
      simp only [h.lenB (by simp [e])]
      split
      · rfl
      · exact hb
    | none =>
      cases hw : u.wr with
      | some p =>
        obtain ⟨b', off, cs⟩ := p
        simp only
        split
        · cases h1 : s.boxes.getD b none <;> cases h2 : s'.boxes.getD b none <;> rw [h1, h2] at hb <;> simp at hb
          rename_i x y
          simp only [Option.map_some]
          obtain ⟨hb1, hb2⟩ := hb
          rw [blit_length, blit_length, hb2, blit_like cs x y off o n hb1 hb2]
        · exact hb
      | none => exact hb
  · have hb := h.wr b o cs e
    rw [app_boxD, app_boxD]
    cases hn : u.nb with
    | some p =>
      obtain ⟨b', cs⟩ := p
      simp only [h.lenB (by simp [e])]
      split
      · rfl
      · exact hb
    | none =>
      cases hw : u.wr with
      | some p =>
        obtain ⟨b', off, cs⟩ := p
        simp only
        split
        · cases h1 : s.boxes.getD b none <;> cases h2 : s'.boxes.getD b none <;> rw [h1, h2] at hb <;> simp at hb
          simp [blit_length, hb]
        · exact hb
      | none => exact hb
  · have hb := h.nb b cs e
    rw [app_boxD, app_boxD]
    cases hn : u.nb with
    | some p =>
      obtain ⟨b', cs⟩ := p
      simp only [h.lenB (by simp [e])]
      split
      · rfl
      · exact hb
    | none =>
      cases hw : u.wr with
      | some p =>
        obtain ⟨b', off, cs⟩ := p
        simp only
        split
        · cases h1 : s.boxes.getD b none <;> cases h2 : s'.boxes.getD b none <;> rw [h1, h2] at hb <;> simp_all
        · exact hb
      | none => exact hb

theorem Tr.away_same {t u : Tr} (h : t.away u = true) (s : St) (hnb : ∀ b cs, u.nb = some (b, cs) → True) : t.Same (u.app s) s := by
  simp only [Tr.away, Bool.and_eq_true] at h
  obtain ⟨h1, h2⟩ := h
  refine ⟨fun _ => rfl, fun d hd => ?_, fun b o n e => ?_, fun b o cs e => ?_, fun b cs e => ?_, app_lenS u s, fun _ => app_lenB u s⟩
  · rw [app_slotD]
    cases hu : u.dst with
    | none => rfl
    | some x =>
      rw [hu] at h1
      simp only [Bool.and_eq_true, Bool.not_eq_true', bne_iff_ne] at h1
      have : x ≠ d := fun e => by
        subst e
        have := h1.1
        rw [List.contains_eq_mem] at this
        simp at this
        exact this hd
      simp [this]
  · unfold rng
    rw [app_boxD]
    cases hn : u.nb with
    | some p =>
      obtain ⟨b', cs⟩ := p
      rw [hn, e] at h2
      simp only [Bool.and_eq_true, bne_iff_ne] at h2
      have : b' ≠ b := fun e => h2.1.1 e.symm
      simp [this]
    | none =>
      cases hw : u.wr with
      | some p =>
        obtain ⟨b', off, cs⟩ := p
        rw [hn, hw, e] at h2
        simp only [Bool.and_eq_true, Bool.or_eq_true, bne_iff_ne] at h2
        simp only
        split
        · rename_i eb
          subst eb
          cases s.boxes.getD b' none with
          | none => rfl
          | some old =>
            simp only [Option.map_some]
            rw [blit_length, blit_part cs old off o n (h2.1.1.resolve_left (fun h => h rfl))]
        · rfl
      | none => rfl
  · rw [app_boxD]
    cases hn : u.nb with
    | some p =>
      obtain ⟨b', cs'⟩ := p
      rw [hn, e] at h2
      simp only [Bool.and_eq_true, bne_iff_ne] at h2
      have : b' ≠ b := fun e => h2.1.2 e.symm
      simp [this]
    | none =>
      cases hw : u.wr with
      | some p =>
        obtain ⟨b', off, cs'⟩ := p
        simp only
        split
        · cases s.boxes.getD b none <;> simp [blit_length]
        · rfl
      | none => rfl
  · rw [app_boxD]
    cases hn : u.nb with
    | some p =>
      obtain ⟨b', cs'⟩ := p
      rw [hn, e] at h2
      simp only [Bool.and_eq_true, bne_iff_ne] at h2
      have : b' ≠ b := fun e => h2.2 e.symm
      simp [this]
    | none =>
      cases hw : u.wr with
      | some p =>
        obtain ⟨b', off, cs'⟩ := p
        simp only
        split
        · cases s.boxes.getD b none <;> simp
        · rfl
      | none => rfl

theorem blit_set {α : Type} (us xs : List α) (p i : Nat) (x : α) (h : i < p ∨ p + us.length ≤ i) : blit (xs.set i x) p us = (blit xs p us).set i x := by
  induction us generalizing xs p with
  | nil => rw [blit_nil, blit_nil]
  | cons u us ih =>
    simp only [List.length_cons] at h
    rw [blit_cons, blit_cons]
    rw [List.set_comm _ _ (show i ≠ p by omega), ih _ _ (by omega)]
theorem blit_comm {α : Type} (us vs xs : List α) (p q : Nat) (h : disj p us.length q vs.length = true) : blit (blit xs p us) q vs = blit (blit xs q vs) p us := by
  induction us generalizing xs p with
  | nil => rw [blit_nil, blit_nil]
  | cons u us ih =>
    simp only [disj, Bool.or_eq_true, List.length_cons] at h
    have h' : (p + us.length + 1 ≤ q) ∨ (q + vs.length ≤ p) := by
      rcases h with h | h <;> have h := Nat.le_of_ble_eq_true h <;> omega
    rw [blit_cons, blit_cons]
    rw [ih (xs.set p u) (p + 1) (by
      simp only [disj, Bool.or_eq_true]
      rcases h' with h' | h'
      · exact .inl (Nat.ble_eq_true_of_le (by omega))
      · exact .inr (Nat.ble_eq_true_of_le (by omega))), blit_set vs xs q p u (by omega)]
/-- What meet nowhere may change places. -/
theorem Tr.apart_comm {t u : Tr} (h : t.apart u = true) (s : St) : t.app (u.app s) = u.app (t.app s) := by
  simp only [Tr.apart, Tr.away, Bool.and_eq_true] at h
  obtain ⟨⟨h1, h2⟩, ⟨h3, h4⟩⟩ := h
  have es : (t.app (u.app s)).slots = (u.app (t.app s)).slots := by
    unfold Tr.app
    cases ht : t.dst with
    | none => cases u.dst <;> rfl
    | some a =>
      cases hu : u.dst with
      | none => rfl
      | some b =>
        rw [hu, ht] at h1
        simp only [Bool.and_eq_true, bne_iff_ne] at h1
        exact List.set_comm _ _ (fun e => h1.2 (by rw [e]))
  have eb : (t.app (u.app s)).boxes = (u.app (t.app s)).boxes := by
    have modset : ∀ (xs : List (Option (List G))) (b b' off : Nat) (cs us : List G), b' ≠ b → (xs.set b (some cs)).modify b' (Option.map fun old => blit old off us) = (xs.modify b' (Option.map fun old => blit old off us)).set b (some cs) := fun xs b b' off cs us hne => by
      apply List.ext_getElem?
      intro i
      simp only [List.getElem?_modify, List.getElem?_set, List.length_modify]
      by_cases e1 : b' = i <;> by_cases e2 : b = i
      · omega
      · simp [e1, e2]
      · simp [e1, e2]
      · simp [e1, e2]
    unfold Tr.app
    cases htn : t.nb with
    | some p =>
      obtain ⟨b, cs⟩ := p
      cases hun : u.nb with
      | some q =>
        obtain ⟨b', cs'⟩ := q
        rw [hun, htn] at h2
        simp only [Bool.and_eq_true, bne_iff_ne] at h2
        exact List.set_comm _ _ (fun e => h2.2 e.symm)
      | none =>
        cases huw : u.wr with
        | none => rfl
        | some q =>
          obtain ⟨b', off, cs'⟩ := q
          rw [hun, huw, htn] at h2
          simp only [Bool.and_eq_true, bne_iff_ne] at h2
          exact (modset s.boxes b b' off cs cs' (fun e => h2.2 e.symm)).symm
    | none =>
      cases htw : t.wr with
      | none => cases hun : u.nb with
        | some q => rfl
        | none => cases u.wr <;> rfl
      | some p =>
        obtain ⟨b, off, cs⟩ := p
        cases hun : u.nb with
        | some q =>
          obtain ⟨b', cs'⟩ := q
          rw [hun, htw, htn] at h2
          simp only [Bool.and_eq_true, bne_iff_ne] at h2
          exact modset s.boxes b' b off cs' cs h2.1.2
        | none =>
          cases huw : u.wr with
          | none => rfl
          | some q =>
            obtain ⟨b', off', cs'⟩ := q
            rw [hun, huw, htn, htw] at h2
            simp only [Bool.and_eq_true, Bool.or_eq_true, bne_iff_ne] at h2
            apply List.ext_getElem?
            intro i
            simp only [List.getElem?_modify]
            by_cases e1 : b = i <;> by_cases e2 : b' = i
            · subst e1; subst e2
              simp only [if_true]
              cases s.boxes[b']? with
              | none => rfl
              | some o =>
                cases o with
                | none => rfl
                | some old =>
                  simp only [Option.map_some, Functor.map]
                  rw [blit_comm cs cs' old off off']
                  have hd := h2.1.2.resolve_left (fun h => h rfl)
                  simp only [disj, Bool.or_eq_true] at hd ⊢
                  exact hd.symm
            · simp [e1, e2]
            · simp [e1, e2]
            · simp [e1, e2]
  have er : (t.app (u.app s)).rows = (u.app (t.app s)).rows := rfl
  cases h5 : t.app (u.app s)
  cases h6 : u.app (t.app s)
  rw [h5, h6] at es eb er
  simp only at es eb er
  subst es; subst eb; subst er; rfl

/-! Values that giving up row k leaves as they are. -/
def immune0 (k : Nat) : G → Bool
  | .int .. | .bool _ | .str _ | .lit _ | .sl _ | .nils | .emp | .ne | .ptr .. | .elt .. => true
  | .own k' _ _ | .eltw k' _ _ | .dat k' => !Nat.beq k' k
  | .fn _ [] => true
  | _ => false
def immuneA (k : Nat) : G → Bool
  | .agg gs => gs.all (immune0 k)
  | g => immune0 k g
def immune1 (k : Nat) : G → Bool
  | .fn _ caps => caps.all (immuneA k)
  | g => immuneA k g
theorem immune0_iff {k : Nat} {x v : G} (h : immune0 k v = true) : kR0 k x = v ↔ x = v := by
  have dead : ∀ {c : Prop} [Decidable c] {y : G}, (if c then G.dead else y) = v → y = v := fun e => by
    split at e
    · subst e; simp [immune0] at h
    · exact e
  constructor
  · intro e
    cases x with
    | own a b c => exact dead e
    | eltw a b c => exact dead e
    | dat a => exact dead e
    | fn f caps => cases caps with
      | nil => exact e
      | cons _ _ => have e' : G.dead = v := e; subst e'; simp [immune0] at h
    | meth f gs => have e' : G.dead = v := e; subst e'; simp [immune0] at h
    | _ => exact e
  · intro e
    subst e
    cases x with
    | own a b c => simp only [immune0, Bool.not_eq_true'] at h; show (if _ then _ else _) = _; rw [if_neg (Nat.ne_of_beq_eq_false h)]
    | eltw a b c => simp only [immune0, Bool.not_eq_true'] at h; show (if _ then _ else _) = _; rw [if_neg (Nat.ne_of_beq_eq_false h)]
    | dat a => simp only [immune0, Bool.not_eq_true'] at h; show (if _ then _ else _) = _; rw [if_neg (Nat.ne_of_beq_eq_false h)]
    | fn f caps => cases caps <;> first | rfl | (simp [immune0] at h; done)
    | _ => first | rfl | (simp [immune0] at h; done)
theorem map_iff {f : G → G} : ∀ {xs vs : List G}, (∀ v ∈ vs, ∀ x, f x = v ↔ x = v) → (xs.map f = vs ↔ xs = vs)
  | [], vs, h => by simp
  | x :: xs, [], h => by simp
  | x :: xs, v :: vs, h => by
    rw [List.map_cons, List.cons.injEq, List.cons.injEq, h v (by simp) x, map_iff (fun v hv => h v (by simp [hv]))]
theorem immuneA_iff {k : Nat} {x v : G} (h : immuneA k v = true) : kRa k x = v ↔ x = v := by
  cases v with
  | agg gs =>
    simp only [immuneA, List.all_eq_true] at h
    cases x with
    | agg xs =>
      show G.agg (xs.map (kR0 k)) = _ ↔ _
      rw [G.agg.injEq, G.agg.injEq]
      exact map_iff (fun v hv x => immune0_iff (h v hv))
    | tup xs => exact ⟨fun e => (by have e' : G.junk = .agg gs := e; cases e'), fun e => (by cases e)⟩
    | own a b c => exact ⟨fun e => (by have e' : (if a = k then G.dead else .own a b c) = .agg gs := e; split at e' <;> cases e'), fun e => (by cases e)⟩
    | eltw a b c => exact ⟨fun e => (by have e' : (if a = k then G.dead else .eltw a b c) = .agg gs := e; split at e' <;> cases e'), fun e => (by cases e)⟩
    | dat a => exact ⟨fun e => (by have e' : (if a = k then G.dead else .dat a) = .agg gs := e; split at e' <;> cases e'), fun e => (by cases e)⟩
    | fn f caps => cases caps <;> exact ⟨fun e => (by cases e), fun e => (by cases e)⟩
    | _ => exact ⟨fun e => (by cases e), fun e => (by cases e)⟩
  | _ =>
    have h0 := h
    simp only [immuneA] at h0
    by_cases hx : ∃ xs, x = .agg xs
    · obtain ⟨xs, rfl⟩ := hx
      exact ⟨fun e => (by cases e), fun e => (by cases e)⟩
    · by_cases ht : ∃ xs, x = .tup xs
      · obtain ⟨xs, rfl⟩ := ht
        refine ⟨fun e => ?_, fun e => ?_⟩
        · have e' : G.junk = _ := e
          rw [← e'] at h0; simp [immune0] at h0
        · rw [← e] at h0; simp [immune0] at h0
      · have e : kRa k x = kR0 k x := by cases x <;> first | rfl | exact absurd ⟨_, rfl⟩ hx | exact absurd ⟨_, rfl⟩ ht
        rw [e]; exact immune0_iff h0
theorem immune1_iff {k : Nat} {x v : G} (h : immune1 k v = true) : kR1 k x = v ↔ x = v := by
  cases v with
  | fn f caps =>
    simp only [immune1, List.all_eq_true] at h
    cases x with
    | fn f' xs =>
      show G.fn f' (xs.map (kRa k)) = _ ↔ _
      rw [G.fn.injEq, G.fn.injEq]
      exact and_congr Iff.rfl (map_iff (fun v hv x => immuneA_iff (h v hv)))
    | own a b c => exact ⟨fun e => (by have e' : (if a = k then G.dead else .own a b c) = .fn f caps := e; split at e' <;> cases e'), fun e => (by cases e)⟩
    | eltw a b c => exact ⟨fun e => (by have e' : (if a = k then G.dead else .eltw a b c) = .fn f caps := e; split at e' <;> cases e'), fun e => (by cases e)⟩
    | dat a => exact ⟨fun e => (by have e' : (if a = k then G.dead else .dat a) = .fn f caps := e; split at e' <;> cases e'), fun e => (by cases e)⟩
    | _ => exact ⟨fun e => (by cases e), fun e => (by cases e)⟩
  | _ =>
    have h0 := h
    simp only [immune1] at h0
    by_cases hx : ∃ g xs, x = .fn g xs
    · obtain ⟨g, xs, rfl⟩ := hx
      exact ⟨fun e => (by cases e), fun e => (by cases e)⟩
    · have e : kR1 k x = kRa k x := by cases x <;> first | rfl | exact absurd ⟨_, _, rfl⟩ hx
      rw [e]; exact immuneA_iff h0
def killS (ks : List Nat) (slots : List G) : List G := ks.foldl (fun s k => s.map (kR1 k)) slots
theorem killS_len : ∀ (ks : List Nat) (s : List G), (killS ks s).length = s.length
  | [], s => rfl
  | k :: ks, s => by show (killS ks (s.map (kR1 k))).length = _; rw [killS_len ks]; simp
theorem killS_at : ∀ (ks : List Nat) (s : List G) (d : Nat) (v : G), (∀ k ∈ ks, immune1 k v = true) → v ≠ .junk → ((killS ks s).getD d .junk = v ↔ s.getD d .junk = v)
  | [], s, d, v, _, _ => Iff.rfl
  | k :: ks, s, d, v, h, hv => by
    show (killS ks (s.map (kR1 k))).getD d .junk = v ↔ _
    rw [killS_at ks _ d v (fun k' hk => h k' (by simp [hk])) hv]
    rw [List.getD_eq_getElem?_getD, List.getD_eq_getElem?_getD, List.getElem?_map]
    cases s[d]? with
    | none => simp
    | some x => simpa using immune1_iff (h k (by simp))
theorem killS_set : ∀ (ks : List Nat) (s : List G) (d : Nat) (v : G), (∀ k ∈ ks, immune1 k v = true) → killS ks (s.set d v) = (killS ks s).set d v
  | [], s, d, v, _ => rfl
  | k :: ks, s, d, v, h => by
    show killS ks ((s.set d v).map (kR1 k)) = (killS ks (s.map (kR1 k))).set d v
    rw [List.map_set, (immune1_iff (h k (by simp))).2 rfl, killS_set ks _ d v (fun k' hk => h k' (by simp [hk]))]
theorem immune_junk {k : Nat} : immune1 k .junk = false := rfl

/-- What an operation of a drawn region does: as above, with what it saw; or it makes the variables and rows anew, and gives rows up; or it makes the whole state, and stands between all others. -/
inductive Tx where
  | tr (t : Tr) (vals : List G)
  | mem (dst : Option Nat) (g : G) (look : List Nat) (kills : List Nat) (bs : List (Option (List G))) (rs : List (Option (List (List G))))
  | all (st : St)
def Tr.slotOnly (t : Tr) : Bool := t.wr.isNone && t.nb.isNone && t.rb.isNone && !t.rr
def Tx.app : Tx → St → St
  | .tr t _, st => t.app st
  | .mem d g _ ks bs rs, st => { slots := match d with | some d => (killS ks st.slots).set d g | none => killS ks st.slots, boxes := bs, rows := rs }
  | .all st', _ => st'
def Tx.away : Tx → Tx → Bool
  | .tr t _, .tr u _ => t.away u
  | .tr t vs, .mem d _ _ ks _ _ => t.slotOnly && (match d with | some d => !t.look.contains d && t.dst != some d | none => true) && (ks.isEmpty || (Nat.beq vs.length t.look.length && vs.all (fun v => ks.all fun k => immune1 k v) && ks.all fun k => immune1 k t.g))
  | .mem d _ L _ _ _, .tr u _ => u.wr.isNone && u.nb.isNone && (match u.dst with | some e => !L.contains e && d != some e | none => true)
  | _, _ => false
def Tx.apart (t u : Tx) : Bool := t.away u && u.away t
def Tx.Same : Tx → St → St → Prop
  | .tr t _, s, s' => t.Same s s'
  | .mem _ _ L _ _ _, s, s' => (∀ d ∈ L, s.slots.getD d .junk = s'.slots.getD d .junk) ∧ s.boxes = s'.boxes ∧ s.rows = s'.rows ∧ s.slots.length = s'.slots.length
  | .all _, s, s' => s = s'
/-- What it saw, it saw in s. -/
def Tx.Vals : Tx → St → Prop
  | .tr t vs, s => ∀ (i d : Nat), t.look[i]? = some d → ∀ v, vs[i]? = some v → v = s.slots.getD d .junk
  | _, _ => True
theorem Tx.Same.refl : ∀ (t : Tx) (s : St), t.Same s s
  | .tr t _, s => Tr.Same.refl t s
  | .mem .., s => ⟨fun _ _ => rfl, rfl, rfl, rfl⟩
  | .all _, s => rfl
theorem setD_out {d : Option Nat} {g : G} {xs : List G} {j : Nat} (h : d ≠ some j) : (match d with | some d => xs.set d g | none => xs).getD j .junk = xs.getD j .junk := by
  cases d with
  | none => rfl
  | some d =>
    simp only
    rw [getD_set, if_neg (fun e => h (by rw [e.1]))]
theorem setD_len (d : Option Nat) (g : G) (xs : List G) : (match d with | some d => xs.set d g | none => xs).length = xs.length := by cases d <;> simp
theorem mem_len (d : Option Nat) (g : G) (L ks : List Nat) (bs : List (Option (List G))) (rs : List (Option (List (List G)))) (s : St) : ((Tx.mem d g L ks bs rs).app s).slots.length = s.slots.length := by
  cases d with
  | none => exact killS_len ks s.slots
  | some d => show ((killS ks s.slots).set d g).length = _; rw [List.length_set, killS_len]
/-- What another one does, that is away, takes no view away and brings none. -/
theorem Tx.away_iff : ∀ {t u : Tx} {s0 : St}, t.Vals s0 → t.away u = true → ∀ (s : St), t.Same (u.app s) s0 ↔ t.Same s s0
  | .tr t vs, .tr u _, s0, _, h, s => by
    have hs := Tr.away_same h s (fun _ _ _ => trivial)
    exact ⟨fun k => hs.symm.trans k, fun k => hs.trans k⟩
  | .tr t vs, .mem d g L ks bs rs, s0, hv, h, s => by
    simp only [Tx.away, Tr.slotOnly, Bool.and_eq_true, Bool.or_eq_true, Bool.not_eq_true', Option.isNone_iff_eq_none, List.all_eq_true] at h
    obtain ⟨⟨⟨⟨⟨h1, h2⟩, h3⟩, h4⟩, h5⟩, h6⟩ := h
    have out : ∀ x ∈ t.look, d ≠ some x := fun x hx e => by
      subst e
      simp only [Bool.and_eq_true, Bool.not_eq_true'] at h5
      have := h5.1
      rw [List.contains_eq_mem] at this
      simp at this
      exact this hx
    have look : ∀ x ∈ t.look, ((Tx.mem d g L ks bs rs).app s).slots.getD x .junk = s0.slots.getD x .junk ↔ s.slots.getD x .junk = s0.slots.getD x .junk := fun x hx => by
      have e1 : ((Tx.mem d g L ks bs rs).app s).slots.getD x .junk = (killS ks s.slots).getD x .junk := setD_out (out x hx)
      rw [e1]
      rcases h6 with h6 | ⟨⟨h6, h7⟩, _⟩
      · have : ks = [] := by simpa using h6
        subst this; exact Iff.rfl
      · have h6 := Nat.eq_of_beq_eq_true h6
        obtain ⟨i, hi⟩ := List.mem_iff_getElem?.1 hx
        have hlt : i < vs.length := by rw [h6]; exact (List.getElem?_eq_some_iff.1 hi).1
        have e2 := hv i x hi _ (List.getElem?_eq_getElem hlt)
        have him := h7 _ (List.getElem_mem hlt)
        rw [e2] at him
        cases ks with
        | nil => exact Iff.rfl
        | cons k0 ks0 =>
          refine killS_at _ s.slots x _ him (fun e => ?_)
          have := him k0 (by simp)
          rw [e, immune_junk] at this; cases this
    have lenE : ((Tx.mem d g L ks bs rs).app s).slots.length = s.slots.length := mem_len d g L ks bs rs s
    constructor
    · intro k
      have k' : t.Same ((Tx.mem d g L ks bs rs).app s) s0 := k
      exact ⟨fun e => (by rw [h4] at e; cases e), fun x hx => (look x hx).1 (k'.look x hx), fun b o n e => (by rw [h3] at e; cases e), fun b o cs e => (by rw [h1] at e; cases e), fun b cs e => (by rw [h2] at e; cases e), by rw [← lenE]; exact k'.lenS, fun e => (by rw [h1, h2, h3] at e; cases e)⟩
    · intro k
      have k' : t.Same s s0 := k
      exact ⟨fun e => (by rw [h4] at e; cases e), fun x hx => (look x hx).2 (k'.look x hx), fun b o n e => (by rw [h3] at e; cases e), fun b o cs e => (by rw [h1] at e; cases e), fun b cs e => (by rw [h2] at e; cases e), by rw [lenE]; exact k'.lenS, fun e => (by rw [h1, h2, h3] at e; cases e)⟩
  | .mem d g L ks bs rs, .tr u _, s0, _, h, s => by
    simp only [Tx.away, Bool.and_eq_true, Option.isNone_iff_eq_none] at h
    obtain ⟨⟨h1, h2⟩, h3⟩ := h
    have look : ∀ x ∈ L, (u.app s).slots.getD x .junk = s.slots.getD x .junk := fun x hx => by
      refine setD_out (fun e => ?_)
      rw [e] at h3
      simp only [Bool.and_eq_true, Bool.not_eq_true'] at h3
      have := h3.1
      rw [List.contains_eq_mem] at this
      simp at this
      exact this hx
    have hb : (u.app s).boxes = s.boxes := by unfold Tr.app; rw [h1, h2]
    constructor
    · intro ⟨k1, k2, k3, k4⟩
      exact ⟨fun x hx => (look x hx).symm.trans (k1 x hx), hb.symm.trans k2, k3, (app_lenS u s).symm.trans k4⟩
    · intro ⟨k1, k2, k3, k4⟩
      exact ⟨fun x hx => (look x hx).trans (k1 x hx), hb.trans k2, k3, (app_lenS u s).trans k4⟩
  | .tr _ _, .all _, _, _, h, _ => by simp [Tx.away] at h
  | .mem .., .mem .., _, _, h, _ => by simp [Tx.away] at h
  | .mem .., .all _, _, _, h, _ => by simp [Tx.away] at h
  | .all _, _, _, _, h, _ => by simp [Tx.away] at h
theorem tm_comm {t : Tr} {vs : List G} {d : Option Nat} {g : G} {L ks : List Nat} {bs : List (Option (List G))} {rs : List (Option (List (List G)))} (h1 : Tx.away (.tr t vs) (.mem d g L ks bs rs) = true) (s : St) :
    (Tx.tr t vs).app ((Tx.mem d g L ks bs rs).app s) = (Tx.mem d g L ks bs rs).app ((Tx.tr t vs).app s) := by
  simp only [Tx.away, Tr.slotOnly, Bool.and_eq_true, Bool.or_eq_true, Bool.not_eq_true', Option.isNone_iff_eq_none, List.all_eq_true] at h1
  obtain ⟨⟨⟨⟨⟨h1, h2⟩, h3⟩, h4⟩, h5⟩, h6⟩ := h1
  have him : ∀ k ∈ ks, immune1 k t.g = true := by
    rcases h6 with h6 | ⟨_, h6⟩
    · have : ks = [] := by simpa using h6
      subst this; exact fun k hk => by simp at hk
    · exact h6
  show Tr.app t _ = _
  unfold Tr.app Tx.app
  rw [h1, h2]
  simp only
  congr 1
  unfold Tr.app
  cases ht : t.dst with
  | none => rfl
  | some e =>
    cases d with
    | none =>
      simp only
      exact (killS_set ks s.slots e t.g him).symm
    | some d =>
      simp only [Bool.and_eq_true, bne_iff_ne] at h5
      simp only
      rw [killS_set ks s.slots e t.g him]
      exact List.set_comm _ _ (fun x => h5.2 (by rw [ht, x]))
theorem Tx.apart_comm : ∀ {t u : Tx}, t.apart u = true → ∀ (s : St), t.app (u.app s) = u.app (t.app s)
  | .tr t _, .tr u _, h, s => Tr.apart_comm h s
  | .tr t _, .mem d g L ks bs rs, h, s => by
    simp only [Tx.apart, Bool.and_eq_true] at h
    exact tm_comm h.1 s
  | .mem d g L ks bs rs, .tr u _, h, s => by
    simp only [Tx.apart, Bool.and_eq_true] at h
    exact (tm_comm h.2 s).symm
  | .tr _ _, .all _, h, _ => by simp [Tx.apart, Tx.away] at h
  | .mem .., .mem .., h, _ => by simp [Tx.apart, Tx.away] at h
  | .mem .., .all _, h, _ => by simp [Tx.apart, Tx.away] at h
  | .all _, _, h, _ => by simp [Tx.apart, Tx.away] at h
end Go.Proofs.YtfacmphjplablaaDoor.Av
namespace Go.Proofs.YtfacmphjplablaaDoor.Av
open Go Go.RowKit
set_option linter.unusedVariables false
set_option linter.unusedSimpArgs false

def pureOp : Op → Bool
  | .move _ | .assign _ | .pick .. | .binOp .. | .unOp .. | .build .. | .fieldAddr .. | .field .. | .indexAddr .. | .index .. | .extract .. | .nilCheck _ | .convert .. | .slice .. | .makeInterface .. => true
  | .makeFunc .. => true
  | .buildSlice .. => true
  | .call { callee := .builtin .len, .. } | .call { callee := .builtin .min, .. } | .call { callee := .builtin .max, .. } => true
  | _ => false
def Det (X : (G → Prop) → Prop) : Prop := ∀ K, X K → ∃ g, K g ∧ ∀ K', K' g → X K'
theorem arithP_det (op : BinOp) (k : IntKind) (m n : Int) : Det (arithP op k m n) := fun K h => by
  cases op <;> simp only [arithP] at h ⊢ <;> first
    | exact ⟨_, h, fun K' h' => h'⟩
    | exact h.elim
    | (cases hb : (n == 0) with
       | true => rw [hb] at h; exact h.elim
       | false => rw [hb] at h; exact ⟨_, h, fun K' h' => h'⟩)
theorem strP_det (op : BinOp) (x y : ByteArray) : Det (strP op x y) := fun K h => by
  cases op <;> simp only [strP] at h ⊢ <;> first
    | exact ⟨_, h.2, fun K' h' => ⟨h.1, h'⟩⟩
    | exact ⟨_, h, fun K' h' => h'⟩
    | exact h.elim
theorem binP_det (P : Program) (op : BinOp) (t : TypeId) (x y : G) : Det (binP P op t x y) := fun K h => by
  unfold binP at h
  split at h
  · split at h
    · rename_i k m k' n opx
      cases hb : decide (n < 0) with
      | true => rw [hb] at h; exact h.elim
      | false => rw [hb] at h; exact ⟨_, h, fun K' h' => by simp only [binP]; rw [hb]; exact h'⟩
    · rename_i k m k' n opx
      cases hb : decide (n < 0) with
      | true => rw [hb] at h; exact h.elim
      | false => rw [hb] at h; exact ⟨_, h, fun K' h' => by simp only [binP]; rw [hb]; exact h'⟩
    · split at h
      · rename_i k m k' n h1 h2 e
        obtain ⟨g, h3, h4⟩ := arithP_det _ _ _ _ K h
        refine ⟨g, h3, fun K' h' => ?_⟩
        unfold binP
        cases op <;> first | exact absurd rfl h1 | exact absurd rfl h2 | (simp only [e, if_true]; rw [← e]; exact h4 K' h')
      · exact h.elim
  · obtain ⟨g, h3, h4⟩ := strP_det _ _ _ K h
    exact ⟨g, h3, fun K' h' => h4 K' h'⟩
  · split at h
    · rename_i e; exact ⟨_, h, fun K' h' => by simp only [binP, e]; exact h'⟩
    · rename_i e; exact ⟨_, h, fun K' h' => by simp only [binP, e]; exact h'⟩
    · exact h.elim
  · obtain ⟨c1, h⟩ := h
    split at h
    · exact h.elim
    · rename_i c2
      split at h
      · rename_i e; exact ⟨_, h, fun K' h' => by simp only [binP]; refine ⟨c1, ?_⟩; rw [if_neg c2]; simp only [e]; exact h'⟩
      · rename_i e; exact ⟨_, h, fun K' h' => by simp only [binP]; refine ⟨c1, ?_⟩; rw [if_neg c2]; simp only [e]; exact h'⟩
      · exact h.elim
  · exact h.elim
theorem unP_det (op : UnOp) (x : G) : Det (unP op x) := fun K h => by
  unfold unP at h
  split at h
  · exact ⟨_, h, fun K' h' => h'⟩
  · exact ⟨_, h, fun K' h' => h'⟩
  · exact h.elim
theorem boundP_det (x : Option G) (d : Nat) (K : Nat → Int → Prop) (h : boundP x d K) : ∃ n z, K n z ∧ ∀ K' : Nat → Int → Prop, K' n z → boundP x d K' := by
  unfold boundP at h
  split at h
  · exact ⟨_, _, h, fun K' h' => h'⟩
  · exact ⟨_, _, h, fun K' h' => h'⟩
  · exact h.elim

theorem buildCells_congr {pl : Nat → Option (Nat × Nat)} {st st' : St} : ∀ (parts : List (Nat × Operand)) (cs : List G), (∀ p ∈ parts, st'.ev p.2 = st.ev p.2) → buildCells pl st' cs parts = buildCells pl st cs parts
  | [], cs, h => rfl
  | (i, x) :: parts, cs, h => by
    unfold buildCells
    have hx := h (i, x) (by simp)
    simp only at hx
    rw [hx]
    cases pl i with
    | none => rfl
    | some q =>
      obtain ⟨o, n⟩ := q
      simp only
      split
      · rw [fL_eq, fL_eq]; exact buildCells_congr parts _ (fun p hp => h p (by simp [hp]))
      · rfl

/-- Operations that look at own rows. -/
def isOwn : G → Bool
  | .own .. => true
  | _ => false
def ownOp (st : St) : Op → Bool
  | .indexAddr _ x _ => isOwn (st.ev x)
  | .slice _ x .. => isOwn (st.ev x)
  | .convert _ _ x => isOwn (st.ev x)
  | _ => false
theorem vop_det {P : Program} {d : Nat} {op : Op} {st : St} {k : G → St → Prop} (hp : pureOp op = true) (h : vop P d op st k) :
    ∃ g, k g st ∧ ∀ (d' : Nat) (st' : St), (ownOp st op = true → st'.rows = st.rows) → (∀ x ∈ op.operands.toList, st'.ev x = st.ev x) → ∀ (k' : G → St → Prop), k' g st' → vop P d' op st' k' := by
  cases op with
  | move x => exact ⟨_, h, fun d' st' hr he k' h' => by simp only [vop]; rw [he x (by simp [Op.operands])]; exact h'⟩
  | assign x => exact ⟨_, h, fun d' st' hr he k' h' => by simp only [vop]; rw [he x (by simp [Op.operands])]; exact h'⟩
  | pick c x y =>
    simp only [vop] at h
    cases hc : st.ev c with
    | bool t =>
      rw [hc] at h
      cases t with
      | true => exact ⟨_, h, fun d' st' hr he k' h' => by simp only [vop]; rw [he c (by simp [Op.operands]), hc, he x (by simp [Op.operands])]; exact h'⟩
      | false => exact ⟨_, h, fun d' st' hr he k' h' => by simp only [vop]; rw [he c (by simp [Op.operands]), hc, he y (by simp [Op.operands])]; exact h'⟩
    | _ => rw [hc] at h; exact h.elim
  | binOp b t x y yt =>
    simp only [vop] at h
    obtain ⟨g, h1, h2⟩ := binP_det P b t _ _ _ h
    exact ⟨g, h1, fun d' st' hr he k' h' => by simp only [vop]; rw [he x (by simp [Op.operands]), he y (by simp [Op.operands])]; exact h2 _ h'⟩
  | unOp u t x =>
    simp only [vop] at h
    obtain ⟨g, h1, h2⟩ := unP_det u _ _ h
    exact ⟨g, h1, fun d' st' hr he k' h' => by simp only [vop]; rw [he x (by simp [Op.operands])]; exact h2 _ h'⟩
  | build t parts =>
    simp only [vop] at h
    split at h
    · rename_i fs cs e1 e2
      cases hb : fs.toList.all (fun f => (P.info? f.type).isSome) with
      | false => rw [hb] at h; exact h.elim
      | true =>
        rw [hb] at h
        simp only [cond_true] at h
        split at h
        · rename_i gs e3
          refine ⟨_, h, fun d' st' hr he k' h' => ?_⟩
          simp only [vop, e1, e2, hb, cond_true]
          rw [buildCells_congr (st := st) parts.toList cs (fun p hp => he p.2 (by simp only [Op.operands]; simp; exact ⟨p.1, by simpa using hp⟩)), e3]
          exact h'
        · exact h.elim
    · rename_i n e cs e1 e2
      cases hb : (P.info? e).isSome with
      | false => rw [hb] at h; exact h.elim
      | true =>
        rw [hb] at h
        simp only [cond_true] at h
        split at h
        · rename_i gs e3
          refine ⟨_, h, fun d' st' hr he k' h' => ?_⟩
          simp only [vop, e1, e2, hb, cond_true]
          rw [buildCells_congr (st := st) parts.toList cs (fun p hp => he p.2 (by simp only [Op.operands]; simp; exact ⟨p.1, by simpa using hp⟩)), e3]
          exact h'
        · exact h.elim
    · exact h.elim
  | buildSlice t len parts =>
    simp only [vop] at h
    split at h
    · rename_i e e1
      split at h
      · rename_i zc e2
        cases hb : (P.cellsOf e == 0) || !(Nat.ble (len * P.cellsOf e) 16777216) with
        | true => rw [hb] at h; exact h.elim
        | false =>
          rw [hb] at h
          simp only [cond_false] at h
          split at h
          · rename_i gs e3
            cases hc : gs.all G.closed0 with
            | false => rw [hc] at h; exact h.elim
            | true =>
              rw [hc] at h
              simp only [cond_true, fLL_eq] at h
              refine ⟨_, h, fun d' st' hr he k' h' => ?_⟩
              simp only [vop, e1, e2, hb, cond_false]
              rw [buildCells_congr (st := st) parts.toList _ (fun p hp => he p.2 (by simp only [Op.operands]; simp; exact ⟨p.1, by simpa using hp⟩)), e3]
              simp only [hc, cond_true, fLL_eq]
              exact h'
          · exact h.elim
      · exact h.elim
    · exact h.elim
  | fieldAddr s x f =>
    simp only [vop] at h
    split at h
    · rename_i fl e1
      cases hb : (P.cellsOf fl.type == 0) || (P.info? fl.type).isNone with
      | true => rw [hb] at h; exact h.elim
      | false =>
        rw [hb] at h
        simp only [cond_false] at h
        split at h
        all_goals first
          | exact h.elim
          | (rename_i e2
             exact ⟨_, h, fun d' st' hr he k' h' => by simp only [vop, e1, hb, cond_false]; rw [he x (by simp [Op.operands]), e2]; exact h'⟩)
    · exact h.elim
  | field t x f =>
    simp only [vop] at h
    split at h
    · rename_i fl gs e1 e2
      split at h
      · rename_i dd e3
        cases hb : Nat.ble (fl.offset + wide P dd fl.type) gs.length with
        | false => rw [hb] at h; exact h.elim
        | true =>
          rw [hb] at h
          exact ⟨_, h, fun d' st' hr he k' h' => by simp only [vop, e1]; rw [he x (by simp [Op.operands]), e2]; simp only [e3, hb]; exact h'⟩
      · exact h.elim
    · exact h.elim
  | indexAddr t x i =>
    simp only [vop] at h
    split at h
    · rename_i e xs kd n e1 e2 e3
      obtain ⟨row, h1, h⟩ := h
      cases hb : (row.length == P.cellsOf e) && (P.info? e).isSome with
      | false => rw [hb] at h; exact h.elim
      | true =>
        rw [hb] at h
        exact ⟨_, h, fun d' st' hr he k' h' => by simp only [vop, e1]; rw [he x (by simp [Op.operands]), he i (by simp [Op.operands]), e2, e3]; exact ⟨row, h1, by rw [hb]; exact h'⟩⟩
    · rename_i e kk off len kd n e1 e2 e3
      split at h
      · rename_i xs e4
        obtain ⟨row, h1, h⟩ := h
        cases hb : (row.length == P.cellsOf e) && (P.info? e).isSome with
        | false => rw [hb] at h; exact h.elim
        | true =>
          rw [hb] at h
          exact ⟨_, h, fun d' st' hr he k' h' => by simp only [vop, e1]; rw [he x (by simp [Op.operands]), he i (by simp [Op.operands]), e2, e3]; simp only [hr (by show isOwn (st.ev x) = true; rw [e2]; rfl), e4]; exact ⟨row, h1, by rw [hb]; exact h'⟩⟩
      · exact h.elim
    · rename_i len e b off kd n e1 e2 e3
      obtain ⟨h1, h⟩ := h
      cases hb : (P.info? e).isSome with
      | false => rw [hb] at h; exact h.elim
      | true =>
        rw [hb] at h
        exact ⟨_, h, fun d' st' hr he k' h' => by simp only [vop, e1]; rw [he x (by simp [Op.operands]), he i (by simp [Op.operands]), e2, e3]; exact ⟨h1, by rw [hb]; exact h'⟩⟩
    · exact h.elim
  | index t x i =>
    simp only [vop] at h
    split at h
    · rename_i s kd n e1 e2 e3
      exact ⟨_, h.2, fun d' st' hr he k' h' => by simp only [vop, e1]; rw [he x (by simp [Op.operands]), he i (by simp [Op.operands]), e2, e3]; exact ⟨h.1, h'⟩⟩
    · rename_i len e gs kd n e1 e2 e3
      split at h
      · rename_i dd e4
        cases hb : (gs.length == len * P.cellsOf e) && (wide P dd e == P.cellsOf e) with
        | false => rw [hb] at h; exact h.elim
        | true =>
          rw [hb] at h
          exact ⟨_, h.2, fun d' st' hr he k' h' => by simp only [vop, e1]; rw [he x (by simp [Op.operands]), he i (by simp [Op.operands]), e2, e3]; simp only [e4, hb]; exact ⟨h.1, h'⟩⟩
      · exact h.elim
    · exact h.elim
  | extract x i =>
    simp only [vop] at h
    split at h
    · rename_i gs e1
      split at h
      · rename_i g e2
        exact ⟨_, h, fun d' st' hr he k' h' => by simp only [vop]; rw [he x (by simp [Op.operands]), e1]; simp only [e2]; exact h'⟩
      · exact h.elim
    · exact h.elim
  | nilCheck x =>
    simp only [vop] at h
    split at h
    all_goals first
      | exact h.elim
      | (rename_i e1
         exact ⟨_, h, fun d' st' hr he k' h' => by simp only [vop]; rw [he x (by simp [Op.operands]), e1]; exact h'⟩)
  | convert s t x =>
    simp only [vop] at h
    split at h
    · rename_i e1 e2 e3
      exact ⟨_, h, fun d' st' hr he k' h' => by simp only [vop, e1, e2]; rw [he x (by simp [Op.operands]), e3]; exact h'⟩
    · rename_i e1 e2 e3
      exact ⟨_, h, fun d' st' hr he k' h' => by simp only [vop, e1, e2]; rw [he x (by simp [Op.operands]), e3]; exact h'⟩
    · exact h.elim
  | slice t x lo hi mx =>
    cases mx with
    | some _ => simp [vop] at h
    | none =>
      have mapeq : ∀ (st' : St) (o : Option Operand), (∀ y, o = some y → st'.ev y = st.ev y) → o.map st'.ev = o.map st.ev := fun st' o ho => by
        cases o with
        | none => rfl
        | some y => simp [ho y rfl]
      simp only [vop] at h
      split at h
      · rename_i s e1 e2
        obtain ⟨hh, hz, h, d1⟩ := boundP_det _ _ _ h
        obtain ⟨l, lz, h, d2⟩ := boundP_det _ _ _ h
        refine ⟨_, h.2, fun d' st' hr he k' h' => ?_⟩
        simp only [vop, e1]
        rw [he x (by simp [Op.operands]), e2, mapeq st' hi (fun y hy => he y (by subst hy; simp [Op.operands])), mapeq st' lo (fun y hy => he y (by subst hy; simp [Op.operands]))]
        exact d1 _ (d2 _ ⟨h.1, h'⟩)
      · rename_i e xs e1 e2
        cases hb : (P.info? e).isNone with
        | true => rw [hb] at h; exact h.elim
        | false =>
          rw [hb] at h
          simp only [cond_false] at h
          obtain ⟨hh, hz, h, d1⟩ := boundP_det _ _ _ h
          obtain ⟨l, lz, h, d2⟩ := boundP_det _ _ _ h
          refine ⟨_, h.2, fun d' st' hr he k' h' => ?_⟩
          simp only [vop, e1]
          rw [he x (by simp [Op.operands]), e2, mapeq st' hi (fun y hy => he y (by subst hy; simp [Op.operands])), mapeq st' lo (fun y hy => he y (by subst hy; simp [Op.operands]))]
          simp only [hb, cond_false]
          exact d1 _ (d2 _ ⟨h.1, h'⟩)
      · exact h.elim
  | makeFunc fn first caps =>
    cases fn with
    | func f =>
      simp only [vop] at h
      have e1 : ∀ st' : St, (∀ x ∈ (Op.makeFunc (.func f) first caps).operands.toList, st'.ev x = st.ev x) → caps.toList.map st'.ev = caps.toList.map st.ev := fun st' he => List.map_congr_left fun x hx => he x (by simp only [Op.operands, Array.toList_append]; exact List.mem_append_right _ hx)
      have f1 : ∀ st' : St, (∀ x ∈ (Op.makeFunc (.func f) first caps).operands.toList, st'.ev x = st.ev x) → first.toList.map st'.ev = first.toList.map st.ev := fun st' he => List.map_congr_left fun x hx => he x (by simp only [Op.operands, Array.toList_append]; exact List.mem_append_left _ hx)
      have e2 : ∀ st' : St, (∀ x ∈ (Op.makeFunc (.func f) first caps).operands.toList, st'.ev x = st.ev x) → caps.toList.all (fun x => okReg (st'.ev x)) = caps.toList.all (fun x => okReg (st.ev x)) := fun st' he => by
        have := congrArg (fun l => l.all okReg) (e1 st' he)
        simpa [List.all_map, Function.comp_def] using this
      have f2 : ∀ st' : St, (∀ x ∈ (Op.makeFunc (.func f) first caps).operands.toList, st'.ev x = st.ev x) → first.toList.all (fun x => okReg (st'.ev x)) = first.toList.all (fun x => okReg (st.ev x)) := fun st' he => by
        have := congrArg (fun l => l.all okReg) (f1 st' he)
        simpa [List.all_map, Function.comp_def] using this
      cases hb : first.isEmpty && caps.toList.all (fun x => okReg (st.ev x)) with
      | false =>
        rw [hb] at h
        simp only [cond_false] at h
        cases hb2 : caps.isEmpty && first.toList.all (fun x => okReg (st.ev x)) with
        | false => rw [hb2] at h; exact False.elim h
        | true =>
          rw [hb2] at h
          refine ⟨_, h, fun d' st' hr he k' h' => ?_⟩
          simp only [vop]
          rw [e2 st' he, hb, f2 st' he, hb2, f1 st' he]
          exact h'
      | true =>
        rw [hb] at h
        refine ⟨_, h, fun d' st' hr he k' h' => ?_⟩
        simp only [vop]
        rw [e2 st' he, hb, e1 st' he]
        exact h'
    | _ => simp [vop] at h
  | makeInterface t x =>
    simp only [vop] at h
    split at h
    · rename_i e1 e2
      exact ⟨_, h, fun d' st' hr he k' h' => by simp only [vop, e1]; rw [he x (by simp [Op.operands]), e2]; exact h'⟩
    · rename_i e1 e2
      exact ⟨_, h, fun d' st' hr he k' h' => by simp only [vop, e1]; rw [he x (by simp [Op.operands]), e2]; exact h'⟩
    · exact h.elim
  | call c =>
    obtain ⟨callee, args, ats⟩ := c
    cases callee with
    | builtin b =>
      have e0 : ∀ st' : St, (∀ x ∈ (Op.call ⟨.builtin b, args, ats⟩).operands.toList, st'.ev x = st.ev x) → args.toList.map st'.ev = args.toList.map st.ev := fun st' he =>
        List.map_congr_left fun x hx => he x (by simp only [Op.operands, Call.operands, Array.toList_append]; exact List.mem_append_right _ hx)
      simp only [vop] at h
      split at h
      · rename_i x e1
        split at h
        · rename_i t e2
          split at h
          · rename_i dd e3
            split at h
            · rename_i n e4
              cases hb : isStrOrSl dd x with
              | false => rw [hb] at h; exact h.elim
              | true =>
                rw [hb] at h
                exact ⟨_, h, fun d' st' hr he k' h' => by simp only [vop]; rw [e0 st' he, e1]; simp only [e2, e3, e4, hb]; exact h'⟩
            · exact h.elim
          · exact h.elim
        · exact h.elim
      · rename_i x xs e1
        split at h
        · rename_i g e2
          exact ⟨_, h, fun d' st' hr he k' h' => by simp only [vop]; rw [e0 st' he, e1]; simp only [e2]; exact h'⟩
        · exact h.elim
      · rename_i x xs e1
        split at h
        · rename_i g e2
          exact ⟨_, h, fun d' st' hr he k' h' => by simp only [vop]; rw [e0 st' he, e1]; simp only [e2]; exact h'⟩
        · exact h.elim
      · exact h.elim
    | _ => simp [vop] at h
  | _ => simp [pureOp] at hp
theorem boundP_map {st st' : St} {o : Option Operand} (h : ∀ y, o = some y → st'.ev y = st.ev y) : o.map st'.ev = o.map st.ev := by
  cases o with
  | none => rfl
  | some y => simp [h y rfl]
theorem xop_det {P : Program} {d : Nat} {op : Op} {st : St} {k : G → St → Prop} (hp : pureOp op = true) (h : xop P d op st k) :
    ∃ g, k g st ∧ ∀ (d' : Nat) (st' : St), (ownOp st op = true → st'.rows = st.rows) → (∀ x ∈ op.operands.toList, st'.ev x = st.ev x) → ∀ (k' : G → St → Prop), k' g st' → xop P d' op st' k' := by
  unfold xop at h
  split at h
  · simp [pureOp] at hp
  · simp [pureOp] at hp
  · rename_i t x lo hi
    split at h
    · rename_i kk off len hx
      unfold sliceO at h
      split at h
      · rename_i e xs hu hxs
        cases hin : (P.info? e).isNone with
        | true => rw [hin] at h; exact h.elim
        | false =>
          rw [hin] at h
          simp only [cond_false] at h
          obtain ⟨hh, hz, h, d1⟩ := boundP_det _ _ _ h
          obtain ⟨l, lz, h, d2⟩ := boundP_det _ _ _ h
          refine ⟨_, h.2, fun d' st' hr he k' h' => ?_⟩
          unfold xop
          simp only [he x (by simp [Op.operands]), hx]
          unfold sliceO
          rw [hu, hr (by show isOwn (st.ev x) = true; rw [hx]; rfl), hxs]
          simp only [hin, cond_false]
          rw [boundP_map (o := hi) (fun y hy => he y (by subst hy; simp [Op.operands])), boundP_map (o := lo) (fun y hy => he y (by subst hy; simp [Op.operands]))]
          exact d1 _ (d2 _ ⟨h.1, h'⟩)
      · exact h.elim
    · rename_i hx
      obtain ⟨g, h1, h2⟩ := vop_det rfl h
      refine ⟨g, h1, fun d' st' hr he k' h' => ?_⟩
      unfold xop
      simp only [he x (by simp [Op.operands])]
      first
      | exact h2 d' st' hr he k' h'
      | (split
         · rename_i kk off len e; exact absurd e (hx kk off len)
         · exact h2 d' st' hr he k' h')
  · rename_i t x hh m
    unfold cutP at h
    split at h
    · rename_i e k1 hn k2 mn g hu e1 e2 hg
      cases hi : (P.info? e).isSome with
      | false => rw [hi] at h; exact h.elim
      | true =>
        rw [hi] at h
        refine ⟨_, h.2, fun d' st' hr he k' h' => ?_⟩
        unfold xop cutP
        simp only [he x (by simp [Op.operands]), he hh (by simp [Op.operands]), he m (by simp [Op.operands]), hu, e1, e2, hg, hi]
        exact ⟨h.1, h'⟩
    · exact h.elim
  · rename_i t
    unfold noneP at h
    split at h
    · rename_i e hu
      cases hi : (P.info? e).isSome with
      | false => rw [hi] at h; exact h.elim
      | true =>
        rw [hi] at h
        refine ⟨_, h, fun d' st' hr he k' h' => ?_⟩
        unfold xop noneP
        simp only [hu, hi]
        exact h'
    · exact h.elim
  · rename_i src dst x
    cases hn : isNum (st.ev x) with
    | true =>
      rw [hn] at h
      simp only [cond_true] at h
      obtain ⟨g, h1, h2⟩ := vop_det rfl h
      refine ⟨g, h1, fun d' st' hr he k' h' => ?_⟩
      unfold xop
      simp only [he x (by simp [Op.operands]), hn, cond_true]
      exact h2 d' st' hr he k' h'
    | false =>
      rw [hn] at h
      simp only [cond_false] at h
      unfold bytesP at h
      split at h
      · rename_i e hu hd
        split at h
        · rename_i he0
          have key : ∃ ys, (∃ bs : List UInt8, ys = bs.map (fun b => [G.int .u8 b.toNat]) ∧ k (.str ⟨bs.toArray⟩) st) ∧ ∀ (st' : St), (isOwn (st.ev x) = true → st'.rows = st.rows) → ∀ k2 : List (List G) → Prop, k2 ys → srcP st' (st.ev x) k2 := by
            unfold srcP at h
            split at h
            · rename_i e1; exact ⟨_, h, fun st' _ k2 hk => by rw [e1]; exact hk⟩
            · rename_i e1; exact ⟨_, h, fun st' _ k2 hk => by rw [e1]; exact hk⟩
            · rename_i e1; exact ⟨_, h, fun st' _ k2 hk => by rw [e1]; exact hk⟩
            · rename_i e1; exact ⟨_, h, fun st' _ k2 hk => by rw [e1]; exact hk⟩
            · rename_i e1
              split at h
              · rename_i e2; exact ⟨_, h.2, fun st' hr k2 hk => by rw [e1]; simp only [srcP, hr (by rw [e1]; rfl), e2]; exact ⟨h.1, hk⟩⟩
              · exact h.elim
            · rename_i e1; exact ⟨_, h, fun st' _ k2 hk => by rw [e1]; exact hk⟩
            · exact h.elim
          obtain ⟨ys, ⟨bs, hbs, h⟩, hq⟩ := key
          refine ⟨_, h, fun d' st' hr he k' h' => ?_⟩
          unfold xop
          simp only [he x (by simp [Op.operands]), hn, cond_false]
          unfold bytesP
          simp only [hu, hd, he0]
          exact hq st' hr _ ⟨bs, hbs, h'⟩
        · exact h.elim
      · exact h.elim
  · rename_i t x y yt
    split at h
    · rename_i b hb
      exact ⟨_, h, fun d' st' hr he k' h' => by unfold xop; simp only [he x (by simp [Op.operands]), he y (by simp [Op.operands]), hb]; exact h'⟩
    · rename_i hb
      obtain ⟨g, h1, h2⟩ := vop_det rfl h
      exact ⟨g, h1, fun d' st' hr he k' h' => by unfold xop; simp only [he x (by simp [Op.operands]), he y (by simp [Op.operands]), hb]; exact h2 d' st' hr he k' h'⟩
  · rename_i t x y yt
    split at h
    · rename_i b hb
      exact ⟨_, h, fun d' st' hr he k' h' => by unfold xop; simp only [he x (by simp [Op.operands]), he y (by simp [Op.operands]), hb]; exact h'⟩
    · rename_i hb
      obtain ⟨g, h1, h2⟩ := vop_det rfl h
      exact ⟨g, h1, fun d' st' hr he k' h' => by unfold xop; simp only [he x (by simp [Op.operands]), he y (by simp [Op.operands]), hb]; exact h2 d' st' hr he k' h'⟩
  · rename_i n1 n2 n3 n4 n5 n6 n7 n8
    obtain ⟨g, h1, h2⟩ := vop_det hp h
    refine ⟨g, h1, fun d' st' hr he k' h' => ?_⟩
    unfold xop
    split
    · exact absurd rfl (n1 _ _ _)
    · exact absurd rfl (n2 _ _ _)
    · exact absurd rfl (n3 _ _ _ _)
    · exact absurd rfl (n4 _ _ _ _)
    · exact absurd rfl (n5 _)
    · exact absurd rfl (n6 _ _ _)
    · exact absurd rfl (n7 _ _ _ _)
    · exact absurd rfl (n8 _ _ _ _)
    · exact h2 d' st' hr he k' h'
end Go.Proofs.YtfacmphjplablaaDoor.Av
namespace Go.Proofs.YtfacmphjplablaaDoor.Av
open Go Go.RowKit
set_option linter.unusedVariables false
set_option linter.unusedSimpArgs false

def foldI (T : Nat → Tx) (l : List Nat) (st : St) : St := l.foldl (fun s i => (T i).app s) st
theorem foldI_cons (T : Nat → Tx) (j : Nat) (l : List Nat) (st : St) : foldI T (j :: l) st = foldI T l ((T j).app st) := rfl
theorem foldI_append (T : Nat → Tx) (l m : List Nat) (st : St) : foldI T (l ++ m) st = foldI T m (foldI T l st) := by simp [foldI]
theorem foldI_away {T : Nat → Tx} {t : Tx} {s0 : St} (hv : t.Vals s0) : ∀ (l : List Nat), (∀ j ∈ l, t.away (T j) = true) → ∀ (s : St), t.Same (foldI T l s) s0 ↔ t.Same s s0
  | [], _, s => Iff.rfl
  | j :: l, h, s => by
    rw [foldI_cons, foldI_away hv l (fun j hj => h j (by simp [hj]))]
    exact Tx.away_iff hv (h j (by simp)) s

/-- i is bound ahead of j. -/
inductive Anc (ops : Array Oper) : Nat → Nat → Prop
  | edge {i j : Nat} {o : Oper} {e : Edge} (hj : ops[j]? = some o) (he : e ∈ o.after) (hb : Region.binds .any e = true) (hi : e.on = i) : Anc ops i j
  | step {i m j : Nat} {o : Oper} {e : Edge} (hj : ops[j]? = some o) (he : e ∈ o.after) (hb : Region.binds .any e = true) (hm : e.on = m) (h : Anc ops i m) : Anc ops i j

def Down (ops : Array Oper) (listed : Array Bool) : Prop := ∀ (j : Nat) o, ops[j]? = some o → listed.getD j false = true → ∀ e ∈ o.after, Region.binds .any e = true → listed.getD e.on false = true
theorem Anc.down {ops : Array Oper} {listed : Array Bool} (hd : Down ops listed) {i j : Nat} (h : Anc ops i j) (hj : listed.getD j false = true) : listed.getD i false = true := by
  induction h with
  | edge h1 h2 h3 h4 => subst h4; exact hd _ _ h1 hj _ h2 h3
  | step h1 h2 h3 h4 _ ih => subst h4; exact ih (hd _ _ h1 hj _ h2 h3)
theorem Anc.ready {ops : Array Oper} {listed : Array Bool} (hd : Down ops listed) {i j : Nat} (h : Anc ops i j) (hj : j ∈ Region.ready .any ops listed) : listed.getD i false = true := by
  obtain ⟨_, o, ho, hr⟩ := mem_ready.1 hj
  cases h with
  | edge h1 h2 h3 h4 => rw [ho] at h1; cases h1; subst h4; exact hr _ h2 h3
  | step h1 h2 h3 h4 h5 => rw [ho] at h1; cases h1; subst h4; exact h5.down hd (hr _ h2 h3)

theorem filter_eq {n : Nat} {p q : Nat → Bool} (h : ∀ j, j < n → p j = q j) : (List.range n).filter p = (List.range n).filter q := List.filter_congr fun j hj => h j (by simpa using hj)
theorem filter_lt {i n : Nat} (h : i ≤ n) (p : Nat → Bool) : (List.range n).filter (fun j => decide (j < i) && p j) = (List.range i).filter p := by
  induction n with
  | zero =>
    obtain rfl : i = 0 := by omega
    rfl
  | succ n ih =>
    rw [List.range_succ, List.filter_append]
    by_cases e : i = n + 1
    · subst e
      rw [List.range_succ, List.filter_append]
      rw [filter_eq (q := p) (fun j hj => by simp; omega)]
      congr 1
      simp only [List.filter_cons, List.filter_nil]
      have : decide (n < n + 1) = true := by simp
      rw [this]; simp
    · rw [ih (by omega)]
      have : decide (n < i) = false := by simp; omega
      simp [this]
theorem fold_put {T : Nat → Tx} {S S' : Nat → Bool} {i : Nat} {st : St} (h0 : S i = false) (h1 : S' i = true) (h2 : ∀ j, j ≠ i → S' j = S j) (h3 : ∀ j, i < j → S j = true → (T j).apart (T i) = true) :
    ∀ n, i < n → foldI T ((List.range n).filter S') st = (T i).app (foldI T ((List.range n).filter S) st) := by
  intro n
  induction n with
  | zero => intro h; omega
  | succ n ih =>
    intro h
    rw [List.range_succ, List.filter_append, List.filter_append, foldI_append, foldI_append]
    by_cases e : i = n
    · subst e
      rw [filter_eq (q := S) (fun j hj => h2 j (by omega))]
      simp only [List.filter_cons, h0, h1, List.filter_nil, if_true, Bool.false_eq_true, if_false]
      rfl
    · rw [ih (by omega)]
      have e2 : S' n = S n := h2 n (fun e' => e e'.symm)
      cases hs : S n with
      | true =>
        simp only [List.filter_cons, e2, hs, if_true, List.filter_nil, foldI_cons]
        exact Tx.apart_comm (h3 n (by omega) hs) _
      | false =>
        simp only [List.filter_cons, e2, hs, List.filter_nil, Bool.false_eq_true, if_false]
        rfl

/-- What operation i does, in each state that looks like st to it. -/
def Does (P : Program) (ops : Array Oper) (i : Nat) (t : Tx) (st : St) : Prop :=
  t.Vals st ∧ ∀ (st' : St), t.Same st' st → ∀ (C : Cx) (F : Fd) (a : Act) (w : World) (Q : Exit → Act → World → Prop) (K : Act → World → Prop), Inv C F st' a w → (∀ C' a' w', Inv C' F (t.app st') a' w' → K a' w') → wpOp P ops Q i K a w

def cnt (l : Nat → Bool) : Nat → Nat
  | 0 => 0
  | n + 1 => cnt l n + if l n then 0 else 1
theorem cnt_set {l l' : Nat → Bool} {i : Nat} (h0 : l i = false) (h1 : l' i = true) (h2 : ∀ j, j ≠ i → l' j = l j) : ∀ n, (i < n → cnt l' n + 1 = cnt l n) ∧ (n ≤ i → cnt l' n = cnt l n)
  | 0 => ⟨fun h => by omega, fun _ => rfl⟩
  | n + 1 => by
    obtain ⟨k1, k2⟩ := cnt_set h0 h1 h2 n
    constructor
    · intro h
      simp only [cnt]
      by_cases e : i = n
      · subst e; rw [h0, h1, k2 (by omega)]; simp
      · rw [h2 n (fun e' => e e'.symm)]; have := k1 (by omega); omega
    · intro h
      simp only [cnt]
      rw [h2 n (by omega), k2 (by omega)]
theorem cnt_zero {l : Nat → Bool} : ∀ n, cnt l n = 0 → ∀ j, j < n → l j = true
  | 0, _, j, hj => by omega
  | n + 1, h, j, hj => by
    simp only [cnt] at h
    by_cases e : j = n
    · subst e
      cases hl : l j with
      | true => rfl
      | false => rw [hl] at h; simp at h
    · exact cnt_zero n (by omega) j (by omega)
theorem cnt_le (l : Nat → Bool) : ∀ n, cnt l n ≤ n
  | 0 => Nat.le_refl _
  | n + 1 => by simp only [cnt]; have := cnt_le l n; split <;> omega

theorem any_sound {P : Program} {ops : Array Oper} {T : Nat → Tx} {st : St} {F : Fd} {Q : Exit → Act → World → Prop} (hd : ∀ i, i < ops.size → Does P ops i (T i) (foldI T (List.range i) st))
    (ha : ∀ i j, i < j → j < ops.size → ¬ Anc ops i j → (T i).apart (T j) = true) (hb : ∀ (j : Nat) o, ops[j]? = some o → ∀ e ∈ o.after, Region.binds .any e = true → e.on < j)
    (hQ : ∀ C a w, Inv C F (foldI T (List.range ops.size) st) a w → Q .normal a w) :
    ∀ (fuel : Nat) (listed : Array Bool) (C : Cx) (a : Act) (w : World), listed.size = ops.size → Down ops listed → cnt (fun j => listed.getD j false) ops.size ≤ fuel → Inv C F (foldI T ((List.range ops.size).filter fun j => listed.getD j false) st) a w → wpAny P .any ops Q fuel listed a w := by
  -- when nothing is ready, all is done
  have done : ∀ (listed : Array Bool) (C : Cx) (a : Act) (w : World), listed.size = ops.size → Region.ready .any ops listed = [] → Inv C F (foldI T ((List.range ops.size).filter fun j => listed.getD j false) st) a w → Q .normal a w := fun listed C a w hs hr hi => by
    have all : ∀ j, j < ops.size → listed.getD j false = true := fun j => by
      induction j using Nat.strongRecOn with
      | _ j ih =>
        intro hj
        by_cases hl : listed.getD j false = true
        · exact hl
        · exfalso
          have : j ∈ Region.ready .any ops listed := mem_ready.2 ⟨by
            have hsz : j < listed.size := by omega
            simp only [Array.getD_eq_getD_getElem?, Array.getElem?_eq_getElem hsz, Option.getD_some] at hl ⊢
            simpa using hl, ops[j], Array.getElem?_eq_getElem hj, fun e he hb' => ih e.on (hb j _ (Array.getElem?_eq_getElem hj) e he hb') (by have := hb j _ (Array.getElem?_eq_getElem hj) e he hb'; omega)⟩
          rw [hr] at this; cases this
    rw [filter_eq (q := fun _ => true) (fun j hj => all j hj)] at hi
    rw [List.filter_eq_self.2 (fun _ _ => rfl)] at hi
    exact hQ C a w hi
  have step : ∀ (fuel : Nat), (∀ (listed : Array Bool) (C : Cx) (a : Act) (w : World), listed.size = ops.size → Down ops listed → cnt (fun j => listed.getD j false) ops.size ≤ fuel → Inv C F (foldI T ((List.range ops.size).filter fun j => listed.getD j false) st) a w → wpAny P .any ops Q fuel listed a w) →
      ∀ (listed : Array Bool) (C : Cx) (a : Act) (w : World), listed.size = ops.size → Down ops listed → cnt (fun j => listed.getD j false) ops.size ≤ fuel + 1 → Inv C F (foldI T ((List.range ops.size).filter fun j => listed.getD j false) st) a w →
        ∀ i ∈ Region.ready .any ops listed, wpOp P ops Q i (wpAny P .any ops Q fuel (listed.setIfInBounds i true)) a w := fun fuel ih listed C a w hs hdn hc hi i hir => by
    obtain ⟨hl, o, ho, hpre⟩ := mem_ready.1 hir
    have hin : i < ops.size := (Array.getElem?_eq_some_iff.1 ho).1
    have hlt : i < listed.size := by omega
    have hSi : listed.getD i false = false := by
      simp only [Array.getD_eq_getD_getElem?, Array.getElem?_eq_getElem hlt, Option.getD_some] at hl ⊢
      exact hl
    have hS1 : (listed.setIfInBounds i true).getD i false = true := by simp [hlt]
    have hS2 : ∀ j, j ≠ i → (listed.setIfInBounds i true).getD j false = listed.getD j false := fun j hj => getD_set_ne false (fun e => hj e.symm)
    have hap : ∀ j, i < j → listed.getD j false = true → (T j).apart (T i) = true := fun j hij hj => by
      have hjn : j < ops.size := by
        by_cases hq : j < ops.size
        · exact hq
        · simp [Array.getElem?_eq_none (show listed.size ≤ j by omega)] at hj
      have := ha i j hij hjn (fun hA => by have := hA.down hdn hj; rw [hSi] at this; cases this)
      simp only [Tx.apart, Bool.and_eq_true] at this ⊢
      exact ⟨this.2, this.1⟩
    refine (hd i hin).2 _ ?_ C F a w Q _ hi fun C' a' w' hi' => ih _ C' a' w' (by simp [hs]) ?_ ?_ ?_
    · have hv := (hd i hin).1
      -- those that are done, and no ancestors: all away
      have unb : ∀ j, j < ops.size → j ≠ i → (listed.getD j false = true ∧ i < j ∨ listed.getD j false = false ∧ j < i) → (T i).away (T j) = true := fun j hj hne h => by
        rcases h with ⟨h1, h2⟩ | ⟨h1, h2⟩
        · have := hap j h2 h1
          simp only [Tx.apart, Bool.and_eq_true] at this
          exact this.2
        · have := ha j i h2 hin (fun hA => by have := hA.ready hdn hir; rw [h1] at this; cases this)
          simp only [Tx.apart, Bool.and_eq_true] at this
          exact this.2
      have split : (List.range ops.size).filter (fun j => listed.getD j false) = (List.range i).filter (fun j => listed.getD j false) ++ ((List.range ops.size).drop i).filter (fun j => listed.getD j false) := by
        have e0 : List.range ops.size = List.range i ++ (List.range ops.size).drop i := by
          have h0 := List.take_append_drop i (List.range ops.size)
          rw [List.take_range, Nat.min_eq_left (Nat.le_of_lt hin)] at h0
          exact h0.symm
        rw [← List.filter_append, ← e0]
      rw [split, foldI_append, foldI_away hv _ (fun j hj => by
        obtain ⟨h1, h2⟩ := List.mem_filter.1 hj
        obtain ⟨q, hq⟩ := List.mem_iff_getElem?.1 h1
        rw [List.getElem?_drop] at hq
        have hlt : i + q < ops.size := by have := (List.getElem?_eq_some_iff.1 hq).1; simpa using this
        rw [List.getElem?_range hlt] at hq
        cases hq
        have hne : i + q ≠ i := fun e => by rw [e, hSi] at h2; cases h2
        exact unb _ hlt hne (.inl ⟨h2, by omega⟩))]
      -- those not done ahead of i are taken out, the last one first
      have out : ∀ m, m ≤ i → ∀ k, k + m = i → (T i).Same (foldI T ((List.range i).filter fun j => listed.getD j false || decide (j < m)) st) (foldI T (List.range i) st) := fun m hm k => by
        induction k generalizing m with
        | zero =>
          intro e
          obtain rfl : m = i := by omega
          rw [filter_eq (q := fun _ => true) (fun j hj => by simp [hj]), List.filter_eq_self.2 (fun _ _ => rfl)]
          exact Tx.Same.refl _ _
        | succ k ih =>
          intro e
          have h1 := ih (m + 1) (by omega) (by omega)
          cases hl : listed.getD m false with
          | true =>
            rw [filter_eq (q := fun j => listed.getD j false || decide (j < m + 1)) (fun j hj => by
              by_cases e1 : j = m
              · subst e1; simp [hl]
              · have : decide (j < m) = decide (j < m + 1) := by simp; omega
                rw [this])]
            exact h1
          | false =>
            have hp := fold_put (T := T) (S := fun j => listed.getD j false || decide (j < m)) (S' := fun j => listed.getD j false || decide (j < m + 1)) (i := m) (st := st) (by simp [hl]) (by simp) (fun j hj => by
              have : decide (j < m + 1) = decide (j < m) := by simp; omega
              simp only [this]) (fun j hj hS => by
              simp only [Bool.or_eq_true, decide_eq_true_eq] at hS
              have hlj : listed.getD j false = true := hS.resolve_right (by omega)
              have hjn : j < ops.size := by
                by_cases hq : j < ops.size
                · exact hq
                · simp [Array.getElem?_eq_none (show listed.size ≤ j by omega)] at hlj
              have := ha m j hj hjn (fun hA => by have := hA.down hdn hlj; rw [hl] at this; cases this)
              simp only [Tx.apart, Bool.and_eq_true] at this ⊢
              exact ⟨this.2, this.1⟩) i (by omega)
            rw [hp] at h1
            exact (Tx.away_iff hv (unb m (by omega) (by omega) (.inr ⟨hl, by omega⟩)) _).1 h1
      have h0 := out 0 (Nat.zero_le _) i (by omega)
      rw [filter_eq (q := fun j => listed.getD j false) (fun j hj => by simp)] at h0
      exact h0
    · intro j oj hoj hlj e he hbe
      by_cases ej : j = i
      · subst ej
        rw [ho] at hoj; cases hoj
        exact getD_set_true (hpre e he hbe)
      · rw [hS2 j ej] at hlj
        exact getD_set_true (hdn j oj hoj hlj e he hbe)
    · have := (cnt_set (l := fun j => listed.getD j false) (l' := fun j => (listed.setIfInBounds i true).getD j false) hSi hS1 hS2 ops.size).1 hin
      omega
    · rw [fold_put (S := fun j => listed.getD j false) hSi hS1 hS2 hap ops.size hin]
      exact hi'
  intro fuel
  induction fuel with
  | zero =>
    intro listed C a w hs hdn hc hi
    have hr : Region.ready .any ops listed = [] := by
      cases hq : Region.ready .any ops listed with
      | nil => rfl
      | cons i rs =>
        have hm : i ∈ Region.ready .any ops listed := by rw [hq]; simp
        obtain ⟨hl, o, ho, _⟩ := mem_ready.1 hm
        have hin : i < ops.size := (Array.getElem?_eq_some_iff.1 ho).1
        have h1 := cnt_zero (l := fun j => listed.getD j false) ops.size (Nat.le_zero.1 hc) i hin
        have hlt : i < listed.size := by omega
        simp only [Array.getD_eq_getD_getElem?, Array.getElem?_eq_getElem hlt, Option.getD_some] at hl h1
        rw [hl] at h1; cases h1
    exact ⟨hr, done listed C a w hs hr hi⟩
  | succ fuel ih =>
    intro listed C a w hs hdn hc hi
    exact ⟨fun hr => done listed C a w hs hr hi, step fuel ih listed C a w hs hdn hc hi⟩

/-! What the operations of a drawn region do, one behind the other. -/
def allP (P : Program) (o : Oper) (st : St) (k : Tx → Prop) : Prop :=
  cop P (o.dst.getD 0) o st fun g st' => st'.next (stills o.op) o.dst g fun st' => st'.force fun st' => k (.all st')
/-- The rows that an append gives up. -/
def appKills (d : Nat) (s : G) (st : St) : List Nat :=
  match s with
  | .own kk _ _ => [kk]
  | _ => match st.rows.getD d none with
    | none => []
    | some _ => [d]
def St.vals (st : St) (L : List Nat) : List G := L.map fun d => st.slots.getD d .junk
/-- A call by place in a drawn region: one that is handed just one variable, and brings nothing new, turns that one alone. -/
def oneD (d : Nat) (B R : List Nat) (st : St) (q : G × List (Option (List G)) × List (Option (List (List G)))) (kt : Nat → List G → G → Prop) (km : G → St → Prop) : Prop :=
  match B, R, q.2.1, q.2.2 with
  | [b], [], [some cs], [] => bif Nat.beq cs.length (cellsB st b).length then fL (cs.map (ren0 (fun i => [b][i]?) (fun i => ([] : List Nat)[i]?))) fun cs' => kt b cs' (ren (fun i => [b][i]?) (fun i => ([] : List Nat)[i]?) q.1)
      else backP d B R st q km
  | _, _, _, _ => backP d B R st q km
def placeD (P : Program) (d : Nat) (f : FuncId) (gs : List G) (st : St) (kt : Nat → List G → G → Prop) (km : G → St → Prop) : Prop :=
  fI (seenB st gs) fun B => fI (seenR st gs B) fun R =>
  bif B.all (fun b => (st.boxes.getD b none).isSome) && R.all (fun k => (st.rows.getD k none).isSome) && distinct B && distinct R then
    fS (gs.map (ren (pos B) (pos R))) fun args => fBs (B.map fun b => (cellsB st b).map (ren0 (pos B) (pos R))) fun bs => fRs (R.map fun k => (st.rows.getD k none).getD []) fun rs =>
      ∃ q, Fp P f args bs rs q ∧ oneD d B R st q kt km
  else False
def dcop (P : Program) (L : List Nat) (o : Oper) (st : St) (k : Tx → Prop) : Prop :=
  match o.op with
  | .load t x => match P.underlying t with
    | none => False
    | some d => match st.ev x with
      | .ptr b off => loadP P t st (.ptr b off) fun g => fA g fun g => k (.tr ⟨o.dst, g, none, none, L, some (b, off, wide P d t), false⟩ (st.vals L))
      | .elt row off => loadP P t st (.elt row off) fun g => fA g fun g => k (.tr ⟨o.dst, g, none, none, L, none, false⟩ (st.vals L))
      | .eltw kk i off => loadP P t st (.eltw kk i off) fun g => fA g fun g => k (.tr ⟨o.dst, g, none, none, L, none, true⟩ (st.vals L))
      | _ => False
  | .store t p x => match P.underlying t, st.ev p with
    | some _, .ptr b off => match st.boxes.getD b none with
      | some cs => bif okReg (st.ev x) && ((st.ev x).cells.length == P.cellsOf t) && Nat.ble (off + P.cellsOf t) cs.length then k (.tr ⟨o.dst, .junk, some (b, off, (st.ev x).cells), none, L, none, false⟩ (st.vals L)) else False
      | none => False
    | _, _ => allP P o st k
  | .alloc t => match o.dst, zeroCells P t with
    | some d, some cs => bif (Nat.blt d st.boxes.length && Nat.blt d st.slots.length) && (st.boxes.getD d none).isNone then k (.tr ⟨some d, .ptr d 0, none, some (d, cs), L, none, false⟩ (st.vals L)) else False
    | _, _ => False
  | .box _ x => match o.dst with
    | some d => bif (Nat.blt d st.boxes.length && Nat.blt d st.slots.length) && (st.boxes.getD d none).isNone && okReg (st.ev x) then k (.tr ⟨some d, .ptr d 0, none, some (d, (st.ev x).cells), L, none, false⟩ (st.vals L)) else False
    | none => False
  | .call { callee := .value f, args, .. } => match st.ev f with
    | .fn f caps => fS (args.toList.map st.ev ++ caps) fun gs => bif gs.all G.closed then (∃ g, Fv P f gs g ∧ bif g.closedR then fA g fun g => k (.tr ⟨o.dst, g, none, none, L, none, false⟩ (st.vals L)) else False) ∨ (placeD P (o.dst.getD 0) f gs st (fun b cs g => fA g fun g => fN cs.length fun n => k (.tr ⟨o.dst, g, some (b, 0, cs), none, L, some (b, 0, n), false⟩ (st.vals L))) fun g st' => fA g fun g => k (.mem o.dst g L (seenR st gs (seenB st gs)) st'.boxes st'.rows))
        else (lendP P f gs st fun g _ => fA g fun g => k (.tr ⟨o.dst, g, none, none, L, none, true⟩ (st.vals L))) ∨ (placeD P (o.dst.getD 0) f gs st (fun b cs g => fA g fun g => fN cs.length fun n => k (.tr ⟨o.dst, g, some (b, 0, cs), none, L, some (b, 0, n), false⟩ (st.vals L))) fun g st' => fA g fun g => k (.mem o.dst g L (seenR st gs (seenB st gs)) st'.boxes st'.rows))
    | _ => False
  | .call { callee := .builtin .append, args, argTypes } => match args.toList.map st.ev, argTypes[0]?, argTypes[1]? with
    | [s, x], some tS, some tX => appP P (o.dst.getD 0) s x tS tX st fun g st' => fA g fun g => st'.force fun st' => k (.mem o.dst g L (appKills (o.dst.getD 0) s st) st'.boxes st'.rows)
    | _, _, _ => False
  | op => bif pureOp op then xop P 0 op st fun g _ => fA g fun g => k (.tr ⟨o.dst, g, none, none, L, none, ownOp st op⟩ (st.vals L)) else allP P o st k
end Go.Proofs.YtfacmphjplablaaDoor.Av
