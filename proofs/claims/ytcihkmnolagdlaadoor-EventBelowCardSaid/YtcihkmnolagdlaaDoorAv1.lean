/- Memory runs of the model over blocks known cell by cell; own variables and rows made and killed. No condition. -/
import Derived.Test.YtcihkmnolagdlaaDoorAv
import Derived.Laws.Cells
import Derived.Laws.Entries
import Derived.ChangeKeysEq
namespace Go.Proofs.YtcihkmnolagdlaaDoor.Av
open Go Go.RowKit
set_option linter.unusedVariables false
set_option linter.unusedSimpArgs false

def aggD : TypeDesc → Bool
  | .struct _ | .array _ _ => true
  | _ => false
def wide (P : Program) (d : TypeDesc) (t : TypeId) : Nat := bif aggD d then P.cellsOf t else 1
def rdC (P : Program) (d : TypeDesc) (t : TypeId) (off : Nat) (cs : List G) : G := bif aggD d then .agg ((cs.drop off).take (P.cellsOf t)) else cs.getD off .junk

theorem addr_add (b o n : Nat) : (Addr.add ⟨b, o, none⟩ n) = ⟨b, o + n, none⟩ := by
  unfold Addr.add; split
  · next h => subst h; rfl
  · rfl

theorem info_of_underlying {P : Program} {t : TypeId} {d : TypeDesc} (h : P.underlying t = some d) : ∃ i, P.info? t = some i := by
  unfold Program.underlying at h
  cases hi : P.info? t with
  | none => rw [hi] at h; simp at h
  | some i => exact ⟨i, rfl⟩

section runs
variable {P : Program}
theorem run_size {t : TypeId} {d : TypeDesc} (h : P.underlying t = some d) (w : World) : (sizeOf t).run P w = .ok (P.cellsOf t) w := by
  obtain ⟨i, hi⟩ := info_of_underlying h
  exact Go.run_sizeOf w hi
theorem run_isAgg' {t : TypeId} {d : TypeDesc} (h : P.underlying t = some d) (w : World) : (isAgg t).run P w = .ok (aggD d) w := by
  unfold isAgg
  rw [Sem.run_bind, run_underlying h, Result.andThen_ok]
  cases d <;> rfl

/-- A variable's load, of a place whose cells are known. -/
theorem load_sound {C : Cx} {w : World} {gs : List G} {B o : Nat} (hc : ∀ (j : Nat) g, gs[j]? = some g → ∃ v, w.cell? ⟨B, o + j, none⟩ = some v ∧ g.cell = true ∧ v.oneCell' = true ∧ Rep C w g v)
    {t : TypeId} {d : TypeDesc} (hu : P.underlying t = some d) (off : Nat) (hle : off + wide P d t ≤ gs.length) :
    ∃ v, (loadVar t ⟨B, o + off, none⟩).run P w = .ok v w ∧ Rep C w (rdC P d t off gs) v := by
  unfold loadVar
  rw [Sem.run_bind, run_isAgg' hu, Result.andThen_ok]
  unfold wide at hle
  unfold rdC
  cases ha : aggD d with
  | false =>
    rw [ha] at hle
    simp only [cond_false] at hle
    simp only [Bool.false_eq_true, if_false, cond_false]
    have h1 : gs[off]? = some (gs.getD off .junk) := by rw [List.getD_eq_getElem?_getD, List.getElem?_eq_getElem (by omega)]; rfl
    obtain ⟨v, hv, _, _, hr⟩ := hc off _ h1
    exact ⟨v, by rw [run_load, hv], hr⟩
  | true =>
    rw [ha] at hle
    simp only [cond_true] at hle
    simp only [if_true, cond_true]
    have hg : ∀ j, j < P.cellsOf t → ∃ g, gs[off + j]? = some g := fun j hj => ⟨gs[off + j]'(by omega), List.getElem?_eq_getElem (by omega)⟩
    let vs : List Value := (List.range (P.cellsOf t)).map fun j => (w.cell? ⟨B, o + off + j, none⟩).getD undef
    have hvs : ∀ (j : Nat) v, vs[j]? = some v → j < P.cellsOf t ∧ w.cell? ⟨B, o + off + j, none⟩ = some v := fun j v hv => by
      have hj : j < P.cellsOf t := by
        have := (List.getElem?_eq_some_iff.1 hv).1
        simpa [vs] using this
      refine ⟨hj, ?_⟩
      obtain ⟨g, hgj⟩ := hg j hj
      obtain ⟨u, hu, _⟩ := hc (off + j) g hgj
      rw [← Nat.add_assoc] at hu
      simp [vs, List.getElem?_map, List.getElem?_range hj, hu] at hv
      rw [hu, hv]
    have hrun : (loadCells ⟨B, o + off, none⟩ vs.length).run P w = .ok vs.toArray w :=
      run_loadCells_list w _ vs (fun j v hv => by rw [addr_add]; exact (hvs j v hv).2)
    have hlen : vs.length = P.cellsOf t := by simp [vs]
    rw [hlen] at hrun
    refine ⟨.agg ⟨vs⟩, ?_, .agg _ vs (by simp [hlen]; omega) ?_ ?_ ?_⟩
    · simp [run_size hu, hrun]
    · intro g hgm
      obtain ⟨j, hj⟩ := List.mem_iff_getElem?.1 hgm
      rw [List.getElem?_take] at hj
      split at hj
      · rw [List.getElem?_drop] at hj
        obtain ⟨_, _, h3, _⟩ := hc _ _ hj; exact h3
      · cases hj
    · intro v hvm
      obtain ⟨j, hj⟩ := List.mem_iff_getElem?.1 hvm
      obtain ⟨hlt, hcl⟩ := hvs j v hj
      obtain ⟨g, hgj⟩ := hg j hlt
      obtain ⟨u, hu, _, h3, _⟩ := hc _ _ hgj
      rw [← Nat.add_assoc, hcl] at hu; cases hu; exact h3
    · intro j g v hgj hvj
      rw [List.getElem?_take] at hgj
      split at hgj
      · rw [List.getElem?_drop] at hgj
        obtain ⟨u, hu, _, _, hr⟩ := hc _ _ hgj
        rw [← Nat.add_assoc, (hvs j v hvj).2] at hu; cases hu; exact hr
      · cases hgj

/-! stores -/
def blit {α : Type} : List α → Nat → List α → List α
  | [], _, _ => []
  | x :: xs, p + 1, us => x :: blit xs p us
  | x :: xs, 0, u :: us => u :: blit xs 0 us
  | x :: xs, 0, [] => x :: xs
theorem blit_nil {α : Type} : ∀ (xs : List α) (p : Nat), blit xs p [] = xs
  | [], _ => by cases ‹Nat› <;> rfl
  | x :: xs, p + 1 => by rw [blit, blit_nil xs p]
  | x :: xs, 0 => rfl
theorem blit_emp {α : Type} (p : Nat) (us : List α) : blit ([] : List α) p us = [] := by cases p <;> cases us <;> rfl
theorem blit_cons {α : Type} : ∀ (xs : List α) (p : Nat) (u : α) (us : List α), blit xs p (u :: us) = blit (xs.set p u) (p + 1) us
  | [], p, u, us => by rw [blit_emp, List.set_nil, blit_emp]
  | x :: xs, p + 1, u, us => by rw [List.set_cons_succ, blit, blit, blit_cons xs p u us]
  | x :: xs, 0, u, us => by rw [List.set_cons_zero, blit, blit]
theorem blit_length {α : Type} : ∀ (us xs : List α) (p : Nat), (blit xs p us).length = xs.length
  | [], xs, p => by rw [blit_nil]
  | u :: us, xs, p => by rw [blit_cons, blit_length us]; simp
theorem blit_get {α : Type} : ∀ (us xs : List α) (p j : Nat), p + us.length ≤ xs.length → (blit xs p us)[j]? = if p ≤ j ∧ j < p + us.length then us[j - p]? else xs[j]?
  | [], xs, p, j, h => by rw [blit_nil, if_neg (by simp only [List.length_nil]; omega)]
  | u :: us, xs, p, j, h => by
    simp only [List.length_cons] at h
    rw [blit_cons, blit_get us _ _ _ (by simp; omega)]
    by_cases h1 : p + 1 ≤ j ∧ j < p + 1 + us.length
    · rw [if_pos h1, if_pos (by simp; omega)]
      obtain ⟨m, rfl⟩ : ∃ m, j = p + 1 + m := ⟨j - (p + 1), by omega⟩
      rw [show p + 1 + m - p = m + 1 from by omega, show p + 1 + m - (p + 1) = m from by omega]; simp
    · rw [if_neg h1]
      by_cases h2 : j = p
      · subst h2
        rw [if_pos (by simp), List.getElem?_set_self (by omega)]; simp
      · rw [List.getElem?_set_ne (by omega), if_neg (by simp; omega)]

/-- Only this block has turned, and to these cells. -/
structure Only (w w' : World) (B : Nat) (vs : List Value) (T : TypeId) (fz : Nat × Nat) : Prop where
  os : w'.os = w.os
  tape : w'.tape = w.tape
  output : w'.output = w.output
  size : w'.heap.size = w.heap.size
  here : w'.heap[B]? = some (.cells ⟨vs⟩ T fz)
  block : ∀ k, k ≠ B → w'.heap[k]? = w.heap[k]?
  was : ∃ vs0 fz0, w.heap[B]? = some (.cells vs0 T fz0) ∧ vs0.size = vs.length

theorem setCell_only {w : World} {B : Nat} {vs : List Value} {T : TypeId} {fz : Nat × Nat} (h : w.heap[B]? = some (.cells ⟨vs⟩ T fz)) (p : Nat) (u : Value) :
    Only w (w.setCell ⟨B, p, none⟩ u) B (vs.set p u) T fz := by
  refine ⟨rfl, rfl, rfl, by simp [World.setCell], ?_, fun k hk => ?_, ⟨vs⟩, fz, h, by simp⟩
  · simp [World.setCell, Array.getElem?_modify, h]
  · simp only [World.setCell, Array.getElem?_modify]; rw [if_neg (fun e => hk e.symm)]

theorem cell_of_block {w : World} {B : Nat} {vs : List Value} {T : TypeId} {fz : Nat × Nat} (h : w.heap[B]? = some (.cells ⟨vs⟩ T fz)) (p : Nat) : w.cell? ⟨B, p, none⟩ = vs[p]? := by
  unfold World.cell?; rw [h]; simp
theorem frozen_of_block {w : World} {B : Nat} {vs : List Value} {T : TypeId} {fz : Nat × Nat} (h : w.heap[B]? = some (.cells ⟨vs⟩ T fz)) (p : Nat) (hf : ¬ (fz.1 ≤ p ∧ p < fz.2)) : w.frozen? ⟨B, p, none⟩ = false := by
  unfold World.frozen?; rw [h]
  obtain ⟨lo, hi⟩ := fz
  simp only at hf ⊢
  simp; omega

theorem run_storeCells_on (B o : Nat) (T : TypeId) (fz : Nat × Nat) : ∀ (us : List Value) (i : Nat) (vs : List Value) (w : World), w.heap[B]? = some (.cells ⟨vs⟩ T fz) → o + i + us.length ≤ vs.length →
    (∀ u ∈ us, u.oneCell' = true) → (∀ p, p < vs.length → ¬ (fz.1 ≤ p ∧ p < fz.2)) → ∃ w', (storeCells ⟨B, o, none⟩ us i).run P w = .ok () w' ∧ Only w w' B (blit vs (o + i) us) T fz
  | [], i, vs, w, h, hle, h1, hf => ⟨w, by simp [storeCells], ⟨rfl, rfl, rfl, rfl, by rw [blit_nil]; exact h, fun _ _ => rfl, ⟨vs⟩, fz, h, by simp [blit_nil]⟩⟩
  | u :: us, i, vs, w, h, hle, h1, hf => by
    simp only [List.length_cons] at hle
    have hs := setCell_only h (o + i) u
    obtain ⟨w', hr, ho⟩ := run_storeCells_on B o T fz us (i + 1) (vs.set (o + i) u) (w.setCell ⟨B, o + i, none⟩ u) hs.here (by simp; omega) (fun x hx => h1 x (by simp [hx])) (fun p hp => hf p (by simpa using hp))
    refine ⟨w', ?_, ⟨ho.os.trans hs.os, ho.tape.trans hs.tape, ho.output.trans hs.output, ho.size.trans hs.size, by rw [blit_cons, Nat.add_assoc]; exact ho.here, fun k hk => (ho.block k hk).trans (hs.block k hk), ⟨vs⟩, fz, h, by rw [blit_length]; rfl⟩⟩
    unfold storeCells
    rw [Sem.run_bind, addr_add, run_store _ _ _ _ _ (h1 u (by simp)), cell_of_block h, List.getElem?_eq_getElem (by omega), frozen_of_block h _ (hf _ (by omega))]
    simpa using hr

theorem Only.ty {w w' : World} {B : Nat} {vs : List Value} {T : TypeId} {fz : Nat × Nat} (h : Only w w' B vs T fz) (B' : Nat) (vs' : Array Value) (T' : TypeId) (fz' : Nat × Nat) (hB : w.heap[B']? = some (.cells vs' T' fz')) : ∃ vs2 fz2, w'.heap[B']? = some (.cells vs2 T' fz2) ∧ vs2.size = vs'.size := by
  by_cases e : B' = B
  · subst e
    obtain ⟨vs0, fz0, h0, hs⟩ := h.was
    rw [h0] at hB
    simp only [Option.some.injEq, Obj.cells.injEq] at hB
    obtain ⟨rfl, rfl, _⟩ := hB
    exact ⟨_, _, h.here, by rw [hs]; simp⟩
  · exact ⟨vs', fz', by rw [h.block _ e]; exact hB, rfl⟩
theorem Only.keeps {w w' : World} {B : Nat} {vs : List Value} {T : TypeId} {fz : Nat × Nat} (h : Only w w' B vs T fz) {ex : Nat → Prop} (he : ex B) : Keeps ex w w' :=
  ⟨by rw [h.size]; exact Nat.le_refl _, fun k _ hn => h.block k (fun e => hn (e ▸ he)), h.ty⟩
theorem Only.fr {t0 : Nat → Prop} {w0 w w' : World} {B : Nat} {vs : List Value} {T : TypeId} {fz : Nat × Nat} (h : Only w w' B vs T fz) (hf : Fr t0 w0 w) (hB : t0 B ∨ w0.heap.size ≤ B) : Fr t0 w0 w' :=
  ⟨h.os.trans hf.os, h.tape.trans hf.tape, h.output.trans hf.output, by rw [h.size]; exact hf.size, fun k hk hn => by
    rw [h.block k (fun e => by subst e; rcases hB with hB | hB; exact hn hB; omega)]; exact hf.block k hk hn,
    fun B' vs' T' fz' h' => by obtain ⟨vs1, fz1, h1, e1⟩ := hf.ty _ _ _ _ h'; obtain ⟨vs2, fz2, h2, e2⟩ := h.ty _ _ _ _ h1; exact ⟨vs2, fz2, h2, e2.trans e1⟩⟩
theorem run_storeVar_on {B o : Nat} {T : TypeId} {fz : Nat × Nat} {vs : List Value} {w : World} (h : w.heap[B]? = some (.cells ⟨vs⟩ T fz)) {t : TypeId} {d : TypeDesc} (hu : P.underlying t = some d) {v : Value}
    (hn : v.cells.toList.length = P.cellsOf t) (hle : o + P.cellsOf t ≤ vs.length) (h1 : ∀ u ∈ v.cells.toList, u.oneCell' = true) (hf : ∀ p, p < vs.length → ¬ (fz.1 ≤ p ∧ p < fz.2)) :
    ∃ w', (storeVar t ⟨B, o, none⟩ v).run P w = .ok () w' ∧ Only w w' B (blit vs o v.cells.toList) T fz := by
  obtain ⟨w', hr, ho⟩ := run_storeCells_on (P := P) B o T fz v.cells.toList 0 vs w h (by omega) h1 hf
  refine ⟨w', ?_, ho⟩
  unfold storeVar
  simp only [Sem.run_bind, run_size hu, Result.andThen_ok]
  rw [if_neg (by rw [← Array.length_toList]; omega)]
  simpa using hr
end runs

theorem Rep.cells {C : Cx} {w : World} {g : G} {v : Value} (h : Rep C w g v) (hc : g.cell = true ∨ ∃ gs, g = .agg gs) : v.cells.toList.length = g.cells.length ∧ (∀ u ∈ v.cells.toList, u.oneCell' = true) ∧
    ∀ (i : Nat) g' v', g.cells[i]? = some g' → v.cells.toList[i]? = some v' → g'.cell = true ∧ Rep C w g' v' := by
  rcases hc with hc | ⟨gs, rfl⟩
  · have h1 := h.oneCell hc
    have e1 : g.cells = [g] := by cases g <;> first | rfl | (simp [G.cell] at hc; done)
    have e2 : v.cells.toList = [v] := by cases v <;> first | rfl | (simp [Value.oneCell'] at h1; done)
    rw [e1, e2]
    refine ⟨rfl, fun u hu => by simp at hu; subst hu; exact h1, fun i g' v' hg hv => ?_⟩
    cases i with
    | zero => simp at hg hv; subst hg; subst hv; exact ⟨hc, h⟩
    | succ i => simp at hg
  · cases h with
    | agg _ vs hl hc hv h =>
      exact ⟨hl, hv, fun i g' v' hg hv' => ⟨hc g' (List.mem_of_getElem? hg), h i g' v' hg hv'⟩⟩
end Go.Proofs.YtcihkmnolagdlaaDoor.Av
