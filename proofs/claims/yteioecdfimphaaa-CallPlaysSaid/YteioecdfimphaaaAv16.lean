/- Loops over a list, element by element. No condition. -/
import Derived.Test.YteioecdfimphaaaAv9
namespace Go.Proofs.Yteioecdfimphaaa.Av
open Go Go.RowKit
set_option linter.unusedVariables false

/-- A loop with a number from 0 on up to n: sh tells the state at the head of a round, I what holds there. -/
theorem Has.each {β : Type} {P : Program} {c : Code} {st : St} {K : Exit → St → Prop} (L D : List Nat) (n : Nat) (I : Nat → β → Prop) (sh : β → Int → St)
    (h0 : ∃ b i, st.at L D = sh b i ∧ I 0 b ∧ i = 0)
    (hr : ∀ (k : Nat) b, k < n → I k b → Has P c (sh b k) fun e st' => match e with | .normal => ∃ b' i', st'.at L D = sh b' i' ∧ I (k + 1) b' ∧ i' = (k : Int) + 1 | e => K e st')
    (he : ∀ b, I n b → Has P c (sh b n) fun e st' => match e with | .normal => False | e => K e st') : Has P (.loop c) st K := by
  obtain ⟨b0, i0, h1, h2, rfl⟩ := h0
  refine Has.loopD L D (fun m st => ∃ k b, k ≤ n ∧ m = n - k ∧ I k b ∧ st = sh b (k : Nat)) n ⟨0, b0, by omega, by omega, h2, h1⟩ fun m st hJ => ?_
  obtain ⟨k, b, hk, rfl, hI, rfl⟩ := hJ
  by_cases hlt : k < n
  · refine ⟨fun C F a w hi => wp_mono ((hr k b hlt hI).out C F a w hi) fun e a' w' ⟨C', st', q1, q2⟩ => ⟨C', st', ?_, q2⟩⟩
    cases e with
    | normal =>
      obtain ⟨b', i', e1, e2, rfl⟩ := q1
      exact ⟨n - (k + 1), by omega, k + 1, b', by omega, rfl, e2, e1⟩
    | _ => exact q1
  · obtain rfl : k = n := by omega
    refine ⟨fun C F a w hi => wp_mono ((he b hI).out C F a w hi) fun e a' w' ⟨C', st', q1, q2⟩ => ⟨C', st', ?_, q2⟩⟩
    cases e with
    | normal => exact q1.elim
    | _ => exact q1
theorem row_at {α : Type} {l : List α} {R : α → List G} {k : Nat} (hk : k < l.length) : 0 ≤ (k : Int) ∧ (l.map R)[((k : Int)).toNat]? = some (R l[k]) :=
  ⟨Int.natCast_nonneg k, by simp [List.getElem?_eq_getElem hk]⟩
theorem lt_at {α : Type} {l : List α} {R : α → List G} {k : Nat} (hk : k < l.length) : decide ((k : Int) < ((l.map R).length : Int)) = true := by simp [hk]
theorem lt_end {α : Type} {l : List α} {R : α → List G} : decide ((l.length : Int) < ((l.map R).length : Int)) = false := by simp
theorem cond_1 {b : Bool} {A B : Prop} (h : b = true) (hA : A) : cond b A B := by rw [h]; exact hA
theorem cond_0 {b : Bool} {A B : Prop} (h : b = false) (hB : B) : cond b A B := by rw [h]; exact hB

/-- A nil list, and an empty one. -/
def nl0 : G → G
  | .nils => .sl []
  | g => g
def nl : G → G
  | .agg gs => .agg (gs.map nl0)
  | g => nl0 g
theorem Rep.nl0 {C : Cx} {w : World} {g : G} {v : Value} (h : Rep C w g v) : Rep C w (nl0 g) v := by
  cases g <;> try exact h
  cases h; exact .slnil _ _
theorem Rep.nl {C : Cx} {w : World} {g : G} {v : Value} (h : Rep C w g v) : Rep C w (nl g) v := by
  cases g with
  | agg gs =>
    cases h with
    | agg _ vs hl hc hv h =>
      refine .agg _ vs (by simpa using hl) (fun g hg => ?_) hv (fun i g v hg hv => ?_)
      · obtain ⟨x, hx, rfl⟩ := List.mem_map.1 hg
        have := hc x hx
        cases x <;> first | exact this | rfl
      · rw [List.getElem?_map] at hg
        obtain ⟨x, hx, rfl⟩ := Option.map_eq_some_iff.1 hg
        exact (h i x v hx hv).nl0
  | _ => exact h.nl0
theorem Fv.nl {P : Program} {f : FuncId} {args : List G} {g : G} (h : Fv P f (args.map nl) g) : Fv P f args g := by
  refine ⟨h.1, fun C w t0 vs hl hr hM h1 h2 h3 => h.2 C w t0 vs (by simpa using hl) (fun i g v hg hv => ?_) hM h1 h2 h3⟩
  rw [List.getElem?_map] at hg
  obtain ⟨x, hx, rfl⟩ := Option.map_eq_some_iff.1 hg
  exact (hr i x v hx hv).nl
/-- A state in which nil lists are told as empty ones. -/
def St.nl (st : St) : St := { st with slots := st.slots.map Av.nl, boxes := st.boxes.map fun o => o.map fun cs => cs.map nl0 }
theorem nl0_cell {g : G} (h : g.cell = true) : (nl0 g).cell = true := by cases g <;> first | exact h | rfl
theorem Inv.nl {C : Cx} {F : Fd} {st : St} {a : Act} {w : World} (h : Inv C F st a w) : Inv C F st.nl a w := by
  refine { h with sz := by simp [St.nl, h.sz], slots := fun i g v hg hv => ?_, mem := { h.mem with box := fun b cs hb => ?_, domB := fun b B hB => ?_ } }
  · simp only [St.nl, List.getElem?_map] at hg
    obtain ⟨x, hx, rfl⟩ := Option.map_eq_some_iff.1 hg
    exact (h.slots i x v hx hv).nl
  · simp only [St.nl, List.getElem?_map] at hb
    obtain ⟨x, hx, e⟩ := Option.map_eq_some_iff.1 hb
    cases x with
    | none => cases e
    | some cs0 =>
      obtain rfl := Option.some.inj e
      obtain ⟨B, vs, T, h1, h2, h3, h4, h5, h6⟩ := h.mem.box b cs0 hx
      refine ⟨B, vs, T, h1, h2, h3, by simpa using h4, h5, fun i g v hg hv => ?_⟩
      rw [List.getElem?_map] at hg
      obtain ⟨y, hy, rfl⟩ := Option.map_eq_some_iff.1 hg
      exact ⟨nl0_cell (h6 i y v hy hv).1, (h6 i y v hy hv).2.nl0⟩
  · obtain ⟨cs, hcs⟩ := h.mem.domB b B hB
    exact ⟨cs.map nl0, by simp [St.nl, List.getElem?_map, hcs]⟩
theorem Has.nl {P : Program} {c : Code} {st : St} {K : Exit → St → Prop} (h : Has P c st.nl K) : Has P c st K := ⟨fun C F a w hi => h.out C F a w hi.nl⟩
/-- A number of 64 bits is one of those. -/
theorem wf_i64 {n : Int} (h : (Lit.int .i64 n).wf = true) : -9223372036854775808 ≤ n ∧ n ≤ 9223372036854775807 := by
  simp [Lit.wf, IntKind.min, IntKind.max, IntKind.signed, IntKind.bits] at h
  omega
end Go.Proofs.Yteioecdfimphaaa.Av
