
/- Events as plain data. No condition. -/
import Derived.Test.YtcihkmnolagdlaaDoorSp2
namespace Go.Proofs.YtcihkmnolagdlaaDoor.Sp
open Go Go.Proofs.YtcihkmnolagdlaaDoor.Av
set_option linter.unusedVariables false

structure Ev where
  kind : Int
  real : Int
  node : Int
  loc : Int
  key : Key
  parent : Key
  root : Id
  hop : Int
  code : Int
  value : Int
deriving DecidableEq
def Ev.g (e : Ev) : List G := [.int .i64 e.kind, .int .i64 e.real, .int .i64 e.node, .int .i64 e.loc, .int .i64 e.key.id.node, .int .i64 e.key.id.inc, .int .i64 e.key.id.seq, .int .i64 e.key.att,
  .int .i64 e.parent.id.node, .int .i64 e.parent.id.inc, .int .i64 e.parent.id.seq, .int .i64 e.parent.att, .int .i64 e.root.node, .int .i64 e.root.inc, .int .i64 e.root.seq, .int .i64 e.hop, .int .i64 e.code, .int .i64 e.value]
def zEv : List G := List.replicate 18 (.int .i64 0)
def idxB {α : Type} (q : α → Bool) (l : List α) : Int := match l.findIdx? q with
  | some i => i
  | none => -1
theorem take_snoc {α : Type} {l : List α} {k : Nat} (hk : k < l.length) : l.take (k + 1) = l.take k ++ [l[k]] := List.take_succ_eq_append_getElem hk
theorem idx_hit {α : Type} {q : α → Bool} {l : List α} {k : Nat} (hk : k < l.length) (hI : idxB q (l.take k) = -1) (h : q l[k] = true) : idxB q l = k := by
  unfold idxB at *
  have e : l.findIdx? q = some k := by
    rw [List.findIdx?_eq_some_iff_getElem]
    refine ⟨hk, h, fun j hj => ?_⟩
    cases hf : (l.take k).findIdx? q with
    | some i => rw [hf] at hI; simp at hI
    | none =>
      rw [List.findIdx?_eq_none_iff] at hf
      have := hf (l[j]) (List.mem_take_iff_getElem.2 ⟨j, by omega, rfl⟩)
      simpa using this
  rw [e]
theorem idx_step {α : Type} {q : α → Bool} {l : List α} {k : Nat} (hk : k < l.length) (hI : idxB q (l.take k) = -1) (h : q l[k] = false) : idxB q (l.take (k + 1)) = -1 := by
  unfold idxB at *
  cases hf : (l.take k).findIdx? q with
  | some i => rw [hf] at hI; simp at hI
  | none =>
    have e : (l.take (k + 1)).findIdx? q = none := by
      rw [List.findIdx?_eq_none_iff] at hf ⊢
      intro x hx
      rw [take_snoc hk, List.mem_append] at hx
      rcases hx with hx | hx
      · exact hf x hx
      · simp at hx; subst hx; exact h
    rw [e]
theorem idx_cases {α : Type} (p : α → Bool) (l : List α) : (idxB (fun e => !(p e)) l = -1 ∧ l.filter p = l) ∨ ∃ i, i < l.length ∧ idxB (fun e => !(p e)) l = (i : Int) ∧ (l.take (i + 1)).filter p = l.take i := by
  unfold idxB
  cases hf : l.findIdx? (fun e => !(p e)) with
  | none =>
    refine .inl ⟨rfl, ?_⟩
    rw [List.findIdx?_eq_none_iff] at hf
    rw [List.filter_eq_self]
    intro x hx
    simpa using hf x hx
  | some i =>
    obtain ⟨hi, h1, h2⟩ := List.findIdx?_eq_some_iff_getElem.1 hf
    refine .inr ⟨i, hi, rfl, ?_⟩
    rw [take_snoc hi, List.filter_append]
    have e1 : (l.take i).filter p = l.take i := by
      rw [List.filter_eq_self]
      intro x hx
      obtain ⟨j, hj, rfl⟩ := List.mem_take_iff_getElem.1 hx
      simpa using h2 j (by omega)
    have e2 : p l[i] = false := by simpa using h1
    rw [e1]
    simp [e2]
/-- What a deletion in place keeps true. -/
structure DelI {α : Type} (p : α → Bool) (l R : List α) (i J : Nat) : Prop where
  len : R.length = l.length
  le : i < J ∧ J ≤ l.length
  old : R.take i = (l.take J).filter p
  new : R.drop J = l.drop J
theorem DelI.at {α : Type} {p : α → Bool} {l R : List α} {i J : Nat} (h : DelI p l R i J) (hJ : J < l.length) : R[J]? = some l[J] := by
  have := congrArg (fun x => x[0]?) h.new
  simp only [List.getElem?_drop, Nat.add_zero] at this
  rw [this]; exact List.getElem?_eq_getElem hJ
theorem DelI.step {α : Type} {p : α → Bool} {l R : List α} {i J : Nat} (h : DelI p l R i J) (hJ : J < l.length) :
    (p l[J] = false → DelI p l R i (J + 1)) ∧ (p l[J] = true → DelI p l (R.set i l[J]) (i + 1) (J + 1)) := by
  obtain ⟨h1, ⟨h2, h3⟩, h4, h5⟩ := h
  have hd : R.drop (J + 1) = l.drop (J + 1) := by rw [← List.drop_drop, ← List.drop_drop, h5]
  refine ⟨fun hp => ⟨h1, ⟨by omega, hJ⟩, ?_, hd⟩, fun hp => ⟨by simpa using h1, ⟨by omega, hJ⟩, ?_, ?_⟩⟩
  · rw [take_snoc hJ, List.filter_append, h4]; simp [hp]
  · rw [take_snoc hJ, List.filter_append, ← h4, take_snoc (by simp; omega)]
    simp only [List.getElem_set_self, List.filter_cons, hp, if_true, List.filter_nil]
    rw [List.take_set_of_le (Nat.le_refl _)]
  · rw [List.drop_set_of_lt (by omega)]; exact hd
end Go.Proofs.YtcihkmnolagdlaaDoor.Sp
