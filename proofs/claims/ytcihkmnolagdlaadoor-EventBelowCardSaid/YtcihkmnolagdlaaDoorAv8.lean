/- What a call comes to, and code: an abstract weakest condition, and that it is one. No condition. -/
import Derived.Test.YtcihkmnolagdlaaDoorAv7b
import Derived.Tactics
namespace Go.Proofs.YtcihkmnolagdlaaDoor.Av
open Go Go.RowKit
set_option linter.unusedVariables false
set_option linter.unusedSimpArgs false

def hasBody (P : Program) (f : FuncId) : Bool :=
  match P.funcs[f]? with
  | some fn => fn.name != "runtime.NumGoroutine" && fn.body.isSome
  | none => false

structure Ends (C : Cx) (t0 : Nat → Prop) (w : World) (C' : Cx) (w' : World) : Prop where
  box : ∀ b B, C.box b = some B → C'.box b = some B
  fr : Fr t0 w w'
  ex : ∀ B, C.ex B → C'.ex B
  exn : ∀ B, C'.ex B → C.ex B ∨ w.heap.size ≤ B
  tb : ∀ b B, C'.box b = some B → t0 B ∨ w.heap.size ≤ B
  tr : ∀ k B s sz n, C'.row k = some (some (B, s, sz, n)) → t0 B ∨ w.heap.size ≤ B

/-- What a call of f comes to: of arguments, own variables handed by place, and own rows; R tells the result, the variables' cells and the rows behind it. -/
def Fun (P : Program) (f : FuncId) (args : List G) (bs : List (List G)) (rs : List (List (List G))) (R : G → List (Option (List G)) → List (Option (List (List G))) → Prop) : Prop :=
  hasBody P f = true ∧ ∀ (C : Cx) (w : World) (t0 : Nat → Prop) (vs : List Value), vs.length = args.length → (∀ (i : Nat) g v, args[i]? = some g → vs[i]? = some v → Rep C w g v) →
    Mem C w (bs.map some) (rs.map some) → (∀ B, t0 B → C.ex B) → (∀ b B, C.box b = some B → t0 B) → (∀ k B s sz n, C.row k = some (some (B, s, sz, n)) → t0 B) → Fixed w C.ex →
    Calls P f ⟨vs⟩ w fun e w' => ∃ v C' g bs' rs', e = .returned v ∧ R g bs' rs' ∧ Rep C' w' g v ∧ Mem C' w' bs' rs' ∧ Ends C t0 w C' w'

/-- A value that names nothing of the call's own, in its parts too. -/
def G.closedR : G → Bool
  | .tup gs => gs.all G.closed
  | g => g.closed
/-- A value without slices. -/
def G.flat0 : G → Bool
  | .int .. | .bool _ | .str _ | .lit _ => true
  | _ => false
def G.flatR : G → Bool
  | .agg gs => gs.all G.flat0
  | .tup gs => gs.all fun | .agg hs => hs.all G.flat0 | g => g.flat0
  | g => g.flat0

/-- A call by values: its result. -/
def Fv (P : Program) (f : FuncId) (args : List G) (g : G) : Prop := Fun P f args [] [] fun g' bs' rs' => g' = g ∧ bs' = [] ∧ rs' = []

theorem Rep.closed {C C' : Cx} {w w' : World} {g : G} {v : Value} (h : Rep C w g v) (hg : g.closed = true) (hk : Keeps C.ex w w') (hx : ∀ B, B < w.heap.size → ¬ C.ex B → ¬ C'.ex B) : Rep C' w' g v := by
  have keyE : ∀ row off v, Rep C w (.elt row off) v → Rep C' w' (.elt row off) v := fun row off v h => by
    cases h with
    | elt _ _ B o f hlt hex hcl hcell h => exact .elt row off B o f (Nat.lt_of_lt_of_le hlt hk.size) (hx B hlt hex) hcl (fun j g hj => by rw [hk.cell (a := ⟨B, o + j, none⟩) hlt hex]; exact hcell j g hj) (fun j g hj => (h j g hj).keep0 (hcl g (List.mem_of_getElem? hj)) hk hx)
  have key1 : ∀ g v, Rep C w g v → g.closed1 = true → Rep C' w' g v := fun g v h hg => by
    by_cases h0 : g.closed0 = true
    · exact h.keep0 h0 hk hx
    · cases h with
      | elt row off B o f a1 a2 a3 a4 a5 => exact keyE _ _ _ (.elt row off B o f a1 a2 a3 a4 a5)
      | agg gs vs hl hc hv h =>
        simp only [G.closed1, List.all_eq_true] at hg
        exact .agg gs vs hl hc hv (fun i g v h1 h2 => (h i g v h1 h2).keep0 (hg g (List.mem_of_getElem? h1)) hk hx)
      | _ => simp_all [G.closed1, G.closed0]
  by_cases h0 : g.closed0 = true
  · exact h.keep0 h0 hk hx
  · cases h with
    | elt row off B o f a1 a2 a3 a4 a5 => exact keyE _ _ _ (.elt row off B o f a1 a2 a3 a4 a5)
    | agg gs vs hl hc hv h =>
      simp only [G.closed, List.all_eq_true] at hg
      exact .agg gs vs hl hc hv (fun i g v h1 h2 => (h i g v h1 h2).keep0 (hg g (List.mem_of_getElem? h1)) hk hx)
    | fn f caps vs hl h =>
      simp only [G.closed, List.all_eq_true] at hg
      exact .fn f caps vs hl (fun i g v h1 h2 => key1 g v (h i g v h1 h2) (hg g (List.mem_of_getElem? h1)))
    | _ => simp_all [G.closed, G.closed0]
theorem Rep.closedR {C C' : Cx} {w w' : World} {g : G} {v : Value} (h : Rep C w g v) (hg : g.closedR = true) (hk : Keeps C.ex w w') (hx : ∀ B, B < w.heap.size → ¬ C.ex B → ¬ C'.ex B) : Rep C' w' g v := by
  by_cases h0 : g.closed = true
  · exact h.closed h0 hk hx
  · cases h with
    | tup gs vs hl h =>
      simp only [G.closedR, List.all_eq_true] at hg
      exact .tup gs vs hl (fun i g v h1 h2 => (h i g v h1 h2).closed (hg g (List.mem_of_getElem? h1)) hk hx)
    | _ => simp_all [G.closedR]

theorem mem0 (w : World) (ex : Nat → Prop) (h : ∀ B, ex B → B < w.heap.size) : Mem { box := fun _ => none, row := fun _ => none, ex := ex } w [] [] :=
  ⟨fun b cs hb => by simp at hb, fun k xs hk => by simp at hk, fun _ _ h => (by cases h), fun _ _ h => (by cases h), fun _ _ _ h => (by cases h), fun _ _ _ _ _ _ _ _ _ h => (by cases h), fun _ _ _ _ _ _ h => (by cases h), h⟩
end Go.Proofs.YtcihkmnolagdlaaDoor.Av
