
/- A stream's messages: what is told of any bytes. No condition. -/
import Derived.Test.YtijohhdgecadnaaSp7
namespace Go.Proofs.Ytijohhdgecadnaa.Sp
open Go Go.Proofs.Ytijohhdgecadnaa.Av
set_option linter.unusedVariables false

structure Msg where
  S : ByteArray
  last : Bool
def Msg.g (m : Msg) : List G := [.str m.S, .bool m.last]
structure Stm where
  s : ByteArray
  last : Bool
  bad : Int
def Stm.g (m : Stm) : List G := [.str m.s, .bool m.last, .int .i64 m.bad]
def emptyB : ByteArray := ⟨#[]⟩
def wrongM (m : Stm) (e : Int) : Stm := { m with s := emptyB, bad := e }
def need (s : ByteArray) : Nat := (numOf s 1 4).toNat
/-- The first message, if it is whole. -/
def nextM (m : Stm) : Stm × Option Msg :=
  if m.bad ≠ 0 ∨ m.s.size = 0 then (m, none)
  else if m.last = true then (wrongM m 6, none)
  else if byteAt m.s 0 > 1 then (wrongM m 5, none)
  else if m.s.size < 5 then (m, none)
  else if need m.s > 4096 then (wrongM m 3, none)
  else if m.s.size < 5 + need m.s then (m, none)
  else (⟨m.s.extract (5 + need m.s) m.s.size, byteAt m.s 0 == 1, 0⟩, some ⟨m.s.extract 5 (5 + need m.s), byteAt m.s 0 == 1⟩)
def runF : Nat → Stm → List Msg × Stm
  | 0, m => ([], m)
  | f + 1, m => match nextM m with
    | (m', none) => ([], m')
    | (m', some x) => (x :: (runF f m').1, (runF f m').2)
/-- All that is whole. -/
def runM (m : Stm) : List Msg × Stm := runF (m.s.size + 1) m
theorem nextM_size {m m' : Stm} {x : Msg} (h : nextM m = (m', some x)) : m'.s.size + 5 ≤ m.s.size ∧ m'.bad = 0 ∧ m.bad = 0 ∧ m'.last = x.last ∧ x.S.size ≤ 4096 ∧ m.last = false := by
  unfold nextM at h
  split at h
  · cases h
  · rename_i h0
    split at h
    · cases h
    · rename_i h1
      split at h
      · cases h
      · split at h
        · cases h
        · split at h
          · cases h
          · split at h
            · cases h
            · cases h
              refine ⟨?_, rfl, ?_, rfl, ?_, by simpa using h1⟩
              · simp only [ByteArray.size_extract]; omega
              · by_cases hb : m.bad = 0
                · exact hb
                · exact absurd (.inl hb) h0
              · simp only [ByteArray.size_extract]; omega
theorem runF_fuel : ∀ (f g : Nat) (m : Stm), m.s.size < f → m.s.size < g → runF f m = runF g m
  | 0, g, m, h, _ => by omega
  | f + 1, 0, m, _, h => by omega
  | f + 1, g + 1, m, h1, h2 => by
    unfold runF
    cases hn : nextM m with
    | mk m' o =>
      cases o with
      | none => rfl
      | some x =>
        have := (nextM_size hn).1
        simp only
        rw [runF_fuel f g m' (by omega) (by omega)]
theorem runM_eq (m : Stm) : runM m = match nextM m with
    | (m', none) => ([], m')
    | (m', some x) => (x :: (runM m').1, (runM m').2) := by
  unfold runM
  rw [show m.s.size + 1 = m.s.size + 1 from rfl, runF]
  cases hn : nextM m with
  | mk m' o =>
    cases o with
    | none => rfl
    | some x =>
      have := (nextM_size hn).1
      simp only
      rw [runF_fuel m.s.size (m'.s.size + 1) m' (by omega) (by omega)]
theorem runM_none {m m' : Stm} (h : nextM m = (m', none)) : runM m = ([], m') := by rw [runM_eq, h]
theorem runM_some {m m' : Stm} {x : Msg} (h : nextM m = (m', some x)) : runM m = (x :: (runM m').1, (runM m').2) := by rw [runM_eq, h]
/-- As often as it can, by the size. -/
theorem runM_induct {p : Stm → Prop} (h0 : ∀ m m', nextM m = (m', none) → p m) (h1 : ∀ m m' x, nextM m = (m', some x) → p m' → p m) : ∀ m, p m := by
  intro m
  generalize hn : m.s.size = n
  induction n using Nat.strongRecOn generalizing m with
  | _ n ih =>
    cases hx : nextM m with
    | mk m' o =>
      cases o with
      | none => exact h0 m m' hx
      | some x => exact h1 m m' x hx (ih m'.s.size (by have := (nextM_size hx).1; omega) m' rfl)
theorem runM_len (m : Stm) : 5 * (runM m).1.length ≤ m.s.size := by
  induction m using runM_induct with
  | h0 m m' h => rw [runM_none h]; simp
  | h1 m m' x h ih => rw [runM_some h]; have := (nextM_size h).1; simp only [List.length_cons]; omega
/-- What is told in the end. -/
def feedM (m : Stm) (t : ByteArray) : List Msg × Stm := runM ⟨m.s ++ t, m.last, 0⟩
/-- The last one's mark, or the one of before. -/
def lastOf (l : List Msg) (b : Bool) : Bool := (l.getLast?.map Msg.last).getD b
theorem nextM_none_last {m m' : Stm} (h : nextM m = (m', none)) : m'.last = m.last := by
  unfold nextM at h
  (repeat' split at h) <;> (cases h; try rfl)
theorem runM_last (m : Stm) : (runM m).2.last = lastOf (runM m).1 m.last := by
  induction m using runM_induct with
  | h0 m m' h => rw [runM_none h]; exact nextM_none_last h
  | h1 m m' x h ih =>
    rw [runM_some h]
    show (runM m').2.last = lastOf (x :: (runM m').1) m.last
    rw [ih, (nextM_size h).2.2.2.1]
    unfold lastOf
    cases (runM m').1 with
    | nil => rfl
    | cons a l => rfl
end Go.Proofs.Ytijohhdgecadnaa.Sp
