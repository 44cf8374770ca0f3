/- One text out of several: Cn133, Sp24, Sp25, Cn134, Cn135, Av15. No condition but theirs. -/
import Derived.Deep.Slices
import Derived.SizedLaws
import Derived.ChangeOld
import Derived.WideShapes
import Derived.ChangeShapes
import Derived.Test.YtcihkmnolagdlaaZTableOrder4
import Derived.Test.YtcihkmnolagdlaaZTableOrder5
namespace Go.Proofs.Ytcihkmnolagdlaa.Cn
open Go Go.Proofs Go.Proofs.Ytcihkmnolagdlaa.Av Go.Proofs.Ytcihkmnolagdlaa.Sp
set_option linter.unusedVariables false
set_option linter.unusedSimpArgs false
set_option linter.unusedSectionVars false
set_option maxRecDepth 100000
attribute [local irreducible] Fv Fp

set_option maxHeartbeats 16000000 in
theorem does_drop (t : Tab) (o : Owner) (k : Sp.Key) (ht : okT t) (ha : Alike t) (hs : t.T.length ≤ 40) :
    Fp Try.prog 19 [.ptr 0 0, .ptr 1 0, .agg (⟨3, o, k⟩ : Tdeed).g] [tb t.T.length, [.own 2 0 t.T.length]] [t.r, t.M.map mrow, t.T.map Owner.g]
      (.bool true, [some (tb (dropTab t k).T.length), some [.own 2 0 (dropTab t k).T.length]], [some (dropTab t k).r, some ((dropTab t k).M.map mrow), some ((dropTab t k).T.map Owner.g)]) := by
  refine Fp.of_awp Try.func19 rfl (by kernel_rfl) (Nat.le_of_ble_eq_true rfl) ?_
  have c1 := table_Drop t k ht hs
  have c2 := ref24_Drop t.T k hs
  rw [(ha.drop k).1, (ha.drop k).2] at c2
  generalize (getT t.T k).isSome = b at *
  generalize (dropTab t k).M.map mrow = M1 at *
  generalize (dropTab t k).r = r1 at *
  generalize (dropTab t k).T.map Owner.g = R1 at *
  generalize (dropTab t k).T.length = n1 at *
  generalize t.T.length = n at *
  generalize t.T.map Owner.g = R at *
  generalize t.M.map mrow = Mr at *
  generalize t.r = r at *
  cases b with
  | true =>
    repeat' (conv => whnf
             first
             | (refine And.intro (Or.inr ⟨by (unfold keepE; kernel_rfl), by kernel_rfl⟩) ?_)
             | (refine And.intro (by kernel_rfl) ?_)
             | (refine And.intro ⟨by kernel_rfl, by kernel_rfl⟩ ?_)
             | (refine Or.inr ⟨_, c1, ?_⟩)
             | (refine Or.inr ⟨_, c2, ?_⟩)
             | (refine cond_f ?_ ?_)
             | (refine ⟨_, ⟨by decide, rfl⟩, ?_⟩)
             | (refine cond_i (fun h => ?_) (fun h => ?_)))
    all_goals (conv => whnf)
    all_goals rfl
  | false =>
    repeat' (conv => whnf
             first
             | (refine And.intro (Or.inr ⟨by (unfold keepE; kernel_rfl), by kernel_rfl⟩) ?_)
             | (refine And.intro (by kernel_rfl) ?_)
             | (refine And.intro ⟨by kernel_rfl, by kernel_rfl⟩ ?_)
             | (refine Or.inr ⟨_, c1, ?_⟩)
             | (refine Or.inr ⟨_, c2, ?_⟩)
             | (refine cond_f ?_ ?_)
             | (refine ⟨_, ⟨by decide, rfl⟩, ?_⟩)
             | (refine cond_i (fun h => ?_) (fun h => ?_)))
    all_goals (conv => whnf)
    all_goals rfl
end Go.Proofs.Ytcihkmnolagdlaa.Cn
namespace Go.Proofs.Ytcihkmnolagdlaa.Sp
open Go Go.Proofs.Ytcihkmnolagdlaa.Av
set_option linter.unusedVariables false

theorem rises_cons {x : Owner} {T : List Owner} (h : rises (x :: T)) : (∀ y ∈ T, cKey x.key y.key = -1) ∧ rises T := by
  unfold rises at h ⊢; exact List.pairwise_cons.1 h
theorem posT_cons (x : Owner) (T : List Owner) (k : Key) : posT (x :: T) k = if cKey x.key k = -1 then posT T k + 1 else 0 := by
  unfold posT
  rw [List.takeWhile_cons]
  by_cases h : cKey x.key k = -1
  · simp [h]
  · have : (cKey x.key k == -1) = false := by simpa using h
    simp [h]
theorem key_ne {x : Owner} {k : Key} (h : cKey x.key k = -1) : ¬ x.key = k := fun e => by have := cKey_eq.2 e; omega
theorem above {x : Owner} {T : List Owner} {k : Key} (h : ∀ y ∈ T, cKey x.key y.key = -1) (hx : cKey x.key k = 0 ∨ cKey x.key k = 1) : ∀ y ∈ T, cKey k y.key = -1 := fun y hy => by
  have h1 := h y hy
  rcases hx with hx | hx
  · rw [cKey_eq.1 hx] at h1; exact h1
  · have h2 := cKey_anti x.key k
    exact cKey_trans (by omega) h1
theorem above_ne {k : Key} {y : Owner} (h : cKey k y.key = -1) : ¬ y.key = k := fun e => by rw [e, cKey_self] at h; omega
theorem getT_cons (x : Owner) (T : List Owner) (k : Key) : getT (x :: T) k = if cKey x.key k = -1 then getT T k else if x.key = k then some x else none := by
  unfold getT
  rw [posT_cons]
  by_cases h : cKey x.key k = -1
  · simp [h]
  · simp [h]
theorem get_alike : ∀ {T : List Owner}, rises T → ∀ k, getR T k = getT T k
  | [], _, k => rfl
  | x :: T, h, k => by
    obtain ⟨h1, h2⟩ := rises_cons h
    have ih := get_alike h2 k
    rw [getT_cons]
    unfold getR at ih ⊢
    rw [List.find?_cons]
    by_cases hx : cKey x.key k = -1
    · rw [if_pos hx, decide_eq_false (key_ne hx)]; exact ih
    · rw [if_neg hx]
      by_cases he : x.key = k
      · rw [if_pos he, decide_eq_true he]
      · rw [if_neg he, decide_eq_false he]
        rw [List.find?_eq_none]
        intro y hy
        have := above h1 (k := k) (by rcases cKey_sign x.key k with h | h | h <;> omega) y hy
        simp [above_ne this]
theorem getT_mem {T : List Owner} {k : Key} {x : Owner} (h : getT T k = some x) : x ∈ T ∧ x.key = k := by
  unfold getT at h
  split at h
  · rename_i y hy
    split at h
    · cases h; exact ⟨List.mem_of_getElem? hy, by assumption⟩
    · cases h
  · cases h
theorem mem_getT {T : List Owner} : rises T → ∀ x ∈ T, getT T x.key = some x := by
  induction T with
  | nil => intro _ x hx; simp at hx
  | cons y T ih =>
    intro h x hx
    obtain ⟨h1, h2⟩ := rises_cons h
    rw [getT_cons]
    rcases List.mem_cons.1 hx with e | hx
    · rw [e, cKey_self, if_neg (by omega), if_pos rfl]
    · rw [if_pos (h1 x hx)]; exact ih h2 x hx
theorem key_inj {T : List Owner} (h : rises T) {x y : Owner} (hx : x ∈ T) (hy : y ∈ T) (e : x.key = y.key) : x = y := by
  have h1 := mem_getT h x hx
  rw [e, mem_getT h y hy] at h1
  exact (Option.some.inj h1).symm
/-! What is dropped. -/
def dropS (T : List Owner) (k : Key) : List Owner := T.filter fun x => !decide (x.key = k)
theorem dropS_id {T : List Owner} {k : Key} (h : ∀ y ∈ T, ¬ y.key = k) : dropS T k = T := by
  unfold dropS; rw [List.filter_eq_self]; intro y hy; simp [h y hy]
theorem at_none {T : List Owner} {k : Key} (h : ∀ y ∈ T, ¬ y.key = k) : at? T k = none := by
  unfold at?; rw [List.findIdx?_eq_none_iff]; intro y hy; simp [h y hy]
theorem dropR_S : ∀ {T : List Owner}, rises T → ∀ k, dropR T k = dropS T k
  | [], _, k => rfl
  | x :: T, h, k => by
    obtain ⟨h1, h2⟩ := rises_cons h
    have ih := dropR_S h2 k
    unfold dropR at ih ⊢
    have e : at? (x :: T) k = if x.key = k then some 0 else (at? T k).map (· + 1) := by
      unfold at?; rw [List.findIdx?_cons]
      by_cases hx : x.key = k <;> simp [hx]
    rw [e]
    unfold dropS
    by_cases hx : x.key = k
    · rw [if_pos hx, List.filter_cons, decide_eq_true hx]
      have := dropS_id (k := k) (fun y hy => above_ne (above h1 (.inl (cKey_eq.2 hx)) y hy))
      unfold dropS at this
      simp only [Bool.not_true, Bool.false_eq_true, if_false, this]
      rfl
    · rw [if_neg hx, List.filter_cons, decide_eq_false hx]
      simp only [Bool.not_false, if_true]
      unfold dropS at ih
      rw [← ih]
      cases at? T k <;> rfl
theorem dropT_S : ∀ {T : List Owner}, rises T → ∀ k, (match T[posT T k]? with | some x => if x.key = k then T.eraseIdx (posT T k) else T | none => T) = dropS T k
  | [], _, k => rfl
  | x :: T, h, k => by
    obtain ⟨h1, h2⟩ := rises_cons h
    have ih := dropT_S h2 k
    rw [posT_cons]
    unfold dropS at ih ⊢
    rw [List.filter_cons]
    by_cases hx : cKey x.key k = -1
    · rw [if_pos hx, decide_eq_false (key_ne hx)]
      simp only [List.getElem?_cons_succ, Bool.not_false, if_true, List.eraseIdx_cons_succ]
      rw [← ih]
      cases T[posT T k]? with
      | none => rfl
      | some y => simp only; split <;> rfl
    · rw [if_neg hx]
      simp only [List.getElem?_cons_zero, List.eraseIdx_cons_zero]
      have ha := above h1 (k := k) (by rcases cKey_sign x.key k with h | h | h <;> omega)
      have hs := dropS_id (k := k) (fun y hy => above_ne (ha y hy))
      unfold dropS at hs
      by_cases he : x.key = k
      · rw [if_pos he, decide_eq_true he]; simp [hs]
      · rw [if_neg he, decide_eq_false he]; simp [hs]
theorem dropTab_T (t : Tab) (h : rises t.T) (k : Key) : (dropTab t k).T = dropS t.T k := by
  rw [← dropT_S h k]
  unfold dropTab
  cases t.T[posT t.T k]? with
  | none => rfl
  | some x => simp only; split <;> rfl
theorem at_get {T : List Owner} (h : rises T) (k : Key) : (at? T k).isSome = (getT T k).isSome := by
  rw [← get_alike h]
  unfold at? getR
  rw [List.findIdx?_isSome, Bool.eq_iff_iff, List.find?_isSome, List.any_eq_true]
/-! What is put. -/
def putS : List Owner → Owner → List Owner
  | [], o => [o]
  | x :: l, o => if cKey x.key o.key = -1 then x :: putS l o else if x.key = o.key then o :: l else o :: x :: l
theorem putT_S : ∀ {T : List Owner}, rises T → ∀ o, (match T[posT T o.key]? with | some x => if x.key = o.key then T.set (posT T o.key) o else T.take (posT T o.key) ++ o :: T.drop (posT T o.key) | none => T.take (posT T o.key) ++ o :: T.drop (posT T o.key)) = putS T o
  | [], _, o => rfl
  | x :: T, h, o => by
    obtain ⟨h1, h2⟩ := rises_cons h
    have ih := putT_S h2 o
    rw [posT_cons]
    unfold putS
    by_cases hx : cKey x.key o.key = -1
    · rw [if_pos hx, if_pos hx, ← ih]
      simp only [List.getElem?_cons_succ, List.set_cons_succ, List.take_succ_cons, List.drop_succ_cons, List.cons_append]
      cases T[posT T o.key]? with
      | none => rfl
      | some y => simp only; split <;> rfl
    · rw [if_neg hx, if_neg hx]
      simp only [List.getElem?_cons_zero, List.set_cons_zero, List.take_zero, List.drop_zero, List.nil_append]
theorem putTab_T (t : Tab) (h : rises t.T) (o : Owner) : (putTab t o).T = putS t.T o := by
  rw [← putT_S h o]
  unfold putTab
  cases t.T[posT t.T o.key]? with
  | none => rfl
  | some x => simp only; split <;> rfl
def layS : List Owner → Owner → List Owner
  | [], o => [o]
  | x :: l, o => if cKey o.key x.key < 0 then o :: x :: l else x :: layS l o
theorem lay_true (o : Owner) : ∀ (l acc : List Owner), l.foldl (lay1 o) (true, acc) = (true, acc ++ l)
  | [], acc => by simp
  | x :: l, acc => by
    rw [List.foldl_cons, show lay1 o (true, acc) x = (true, acc ++ [x]) from by unfold lay1; rw [if_neg (by simp)], lay_true o l]; simp
theorem lay_false (o : Owner) : ∀ (l acc : List Owner), (match l.foldl (lay1 o) (false, acc) with | (true, r) => r | (false, r) => r ++ [o]) = acc ++ layS l o
  | [], acc => rfl
  | x :: l, acc => by
    rw [List.foldl_cons]
    unfold layS
    by_cases h : cKey o.key x.key < 0
    · rw [show lay1 o (false, acc) x = (true, acc ++ [o] ++ [x]) from by unfold lay1; rw [if_pos ⟨rfl, h⟩], lay_true, if_pos h]; simp
    · rw [show lay1 o (false, acc) x = (false, acc ++ [x]) from by unfold lay1; rw [if_neg (fun q => h q.2)], lay_false o l, if_neg h]; simp
theorem layR_S (T : List Owner) (o : Owner) : layR T o = layS T o := by
  have := lay_false o T []
  unfold layR
  rw [List.nil_append] at this
  exact this
theorem layS_above {l : List Owner} {o : Owner} (h : ∀ y ∈ l, cKey o.key y.key = -1) : layS l o = o :: l := by
  cases l with
  | nil => rfl
  | cons y l => unfold layS; rw [if_pos (by have := h y (by simp); omega)]
theorem putR_S : ∀ {T : List Owner}, rises T → ∀ o, putR T o = putS T o
  | T, h, o => by
    unfold putR
    rw [dropR_S h, layR_S]
    induction T with
    | nil => rfl
    | cons x T ih =>
      obtain ⟨h1, h2⟩ := rises_cons h
      have ih := ih h2
      unfold dropS at ih ⊢
      rw [List.filter_cons]
      unfold putS
      by_cases hx : cKey x.key o.key = -1
      · rw [if_pos hx, decide_eq_false (key_ne hx)]
        simp only [Bool.not_false, if_true]
        unfold layS
        have := cKey_anti x.key o.key
        rw [if_neg (by omega), ih]
      · rw [if_neg hx]
        have ha := above h1 (k := o.key) (by rcases cKey_sign x.key o.key with h | h | h <;> omega)
        have hs := dropS_id (k := o.key) (fun y hy => above_ne (ha y hy))
        unfold dropS at hs
        rw [hs]
        by_cases he : x.key = o.key
        · rw [if_pos he, decide_eq_true he]
          simp only [Bool.not_true, Bool.false_eq_true, if_false]
          exact layS_above ha
        · rw [if_neg he, decide_eq_false he]
          simp only [Bool.not_false, if_true]
          unfold layS
          have h3 := cKey_anti x.key o.key
          have h4 : ¬ cKey x.key o.key = 0 := fun e => he (cKey_eq.1 e)
          rw [if_pos (by rcases cKey_sign x.key o.key with h | h | h <;> omega)]
theorem mem_putS : ∀ {T : List Owner}, rises T → ∀ o y, y ∈ putS T o ↔ y = o ∨ (y ∈ T ∧ ¬ y.key = o.key)
  | [], _, o, y => by simp [putS]
  | x :: T, h, o, y => by
    obtain ⟨h1, h2⟩ := rises_cons h
    have ih := mem_putS h2 o y
    unfold putS
    by_cases hx : cKey x.key o.key = -1
    · rw [if_pos hx, List.mem_cons, List.mem_cons, ih]
      have := key_ne hx
      constructor
      · rintro (rfl | rfl | ⟨h3, h4⟩)
        · exact .inr ⟨.inl rfl, this⟩
        · exact .inl rfl
        · exact .inr ⟨.inr h3, h4⟩
      · rintro (rfl | ⟨rfl | h3, h4⟩)
        · exact .inr (.inl rfl)
        · exact .inl rfl
        · exact .inr (.inr ⟨h3, h4⟩)
    · rw [if_neg hx]
      have ha := above h1 (k := o.key) (by rcases cKey_sign x.key o.key with h | h | h <;> omega)
      have hne : ∀ z ∈ T, ¬ z.key = o.key := fun z hz => above_ne (ha z hz)
      by_cases he : x.key = o.key
      · rw [if_pos he, List.mem_cons, List.mem_cons]
        constructor
        · rintro (rfl | h3)
          · exact .inl rfl
          · exact .inr ⟨.inr h3, hne y h3⟩
        · rintro (rfl | ⟨rfl | h3, h4⟩)
          · exact .inl rfl
          · exact absurd he h4
          · exact .inr h3
      · rw [if_neg he, List.mem_cons, List.mem_cons]
        constructor
        · rintro (rfl | rfl | h3)
          · exact .inl rfl
          · exact .inr ⟨.inl rfl, he⟩
          · exact .inr ⟨.inr h3, hne y h3⟩
        · rintro (rfl | ⟨h3, h4⟩)
          · exact .inl rfl
          · exact .inr h3
theorem rises_putS : ∀ {T : List Owner}, rises T → ∀ o, rises (putS T o)
  | [], _, o => List.pairwise_singleton _ _
  | x :: T, h, o => by
    obtain ⟨h1, h2⟩ := rises_cons h
    have ih := rises_putS h2 o
    unfold putS
    by_cases hx : cKey x.key o.key = -1
    · rw [if_pos hx]
      refine List.pairwise_cons.2 ⟨fun y hy => ?_, ih⟩
      rcases (mem_putS h2 o y).1 hy with rfl | ⟨h3, _⟩
      · exact hx
      · exact h1 y h3
    · rw [if_neg hx]
      have ha := above h1 (k := o.key) (by rcases cKey_sign x.key o.key with h | h | h <;> omega)
      by_cases he : x.key = o.key
      · rw [if_pos he]; exact List.pairwise_cons.2 ⟨ha, h2⟩
      · rw [if_neg he]
        refine List.pairwise_cons.2 ⟨fun y hy => ?_, h⟩
        rcases List.mem_cons.1 hy with rfl | hy
        · have h3 := cKey_anti y.key o.key
          have h4 : ¬ cKey y.key o.key = 0 := fun e => he (cKey_eq.1 e)
          rcases cKey_sign y.key o.key with h | h | h <;> omega
        · exact ha y hy
theorem len_putS : ∀ (T : List Owner) (o : Owner), (putS T o).length ≤ T.length + 1
  | [], o => Nat.le_refl _
  | x :: T, o => by
    unfold putS
    split
    · have := len_putS T o; simp; omega
    · split <;> simp
theorem rises_dropS {T : List Owner} (h : rises T) (k : Key) : rises (dropS T k) := List.Pairwise.filter _ h
theorem mem_dropS {T : List Owner} {k : Key} {y : Owner} : y ∈ dropS T k ↔ y ∈ T ∧ ¬ y.key = k := by
  unfold dropS; rw [List.mem_filter]; simp
end Go.Proofs.Ytcihkmnolagdlaa.Sp
namespace Go.Proofs.Ytcihkmnolagdlaa.Sp
open Go Go.Proofs.Ytcihkmnolagdlaa.Av
set_option linter.unusedVariables false

theorem mget_cons (p : Id × Key) (M : List (Id × Key)) (d : Id) : mget (p :: M) d = if d = p.1 then some p.2 else mget M d := by
  unfold mget; rw [List.find?_cons]
  by_cases h : d = p.1 <;> simp [h]
theorem mput_cons (p : Id × Key) (M : List (Id × Key)) (a : Id) (k : Key) : mputM (p :: M) a k = if a = p.1 then (a, k) :: M else p :: mputM M a k := by
  unfold mputM mhit; rw [List.findIdx?_cons]
  by_cases h : a = p.1
  · simp [h]
  · rw [decide_eq_false h]
    simp only [Bool.false_eq_true, if_false, if_neg h]
    cases M.findIdx? (fun p => decide (a = p.1)) <;> rfl
theorem mdel_cons (p : Id × Key) (M : List (Id × Key)) (a : Id) : mdelM (p :: M) a = if a = p.1 then M else p :: mdelM M a := by
  unfold mdelM mhit; rw [List.findIdx?_cons]
  by_cases h : a = p.1
  · simp [h]
  · rw [decide_eq_false h]
    simp only [Bool.false_eq_true, if_false, if_neg h]
    cases M.findIdx? (fun p => decide (a = p.1)) <;> rfl
theorem mget_mput (a : Id) (k : Key) (d : Id) : ∀ M, mget (mputM M a k) d = if d = a then some k else mget M d
  | [] => mget_cons (a, k) [] d
  | p :: M => by
    rw [mput_cons]
    by_cases h : a = p.1
    · rw [if_pos h, mget_cons, mget_cons]
      by_cases h2 : d = a
      · simp [h2]
      · rw [if_neg h2, if_neg h2, if_neg (fun e => h2 (e.trans h.symm))]
    · rw [if_neg h, mget_cons, mget_cons, mget_mput a k d M]
      by_cases h2 : d = a
      · rw [if_pos h2, if_neg (fun e => h (h2.symm.trans e))]; simp [h2]
      · simp [h2]
def keysM (M : List (Id × Key)) : List Id := M.map (·.1)
theorem keys_mput (a : Id) (k : Key) : ∀ M, ∀ d, d ∈ keysM (mputM M a k) ↔ d = a ∨ d ∈ keysM M
  | [], d => by simp [mputM, mhit, keysM]
  | p :: M, d => by
    have ih := keys_mput a k M d
    rw [mput_cons]
    unfold keysM at ih ⊢
    by_cases h : a = p.1
    · rw [if_pos h, List.map_cons, List.map_cons, List.mem_cons, List.mem_cons, ← h]
      constructor
      · rintro (e | e)
        · exact .inl e
        · exact .inr (.inr e)
      · rintro (e | e | e)
        · exact .inl e
        · exact .inl e
        · exact .inr e
    · rw [if_neg h, List.map_cons, List.map_cons, List.mem_cons, List.mem_cons, ih]
      constructor
      · rintro (e | e | e)
        · exact .inr (.inl e)
        · exact .inl e
        · exact .inr (.inr e)
      · rintro (e | e | e)
        · exact .inr (.inl e)
        · exact .inl e
        · exact .inr (.inr e)
theorem nodup_mput (a : Id) (k : Key) : ∀ M, (keysM M).Nodup → (keysM (mputM M a k)).Nodup
  | [], _ => by simp [mputM, mhit, keysM]
  | p :: M, h => by
    have h' : p.1 ∉ keysM M ∧ (keysM M).Nodup := List.nodup_cons.1 h
    rw [mput_cons]
    by_cases e : a = p.1
    · rw [if_pos e]; show (a :: keysM M).Nodup; rw [e]; exact h
    · rw [if_neg e]
      show (p.1 :: keysM (mputM M a k)).Nodup
      rw [List.nodup_cons, keys_mput]
      exact ⟨fun q => q.elim (fun q => e q.symm) h'.1, nodup_mput a k M h'.2⟩
theorem keys_mdel (a : Id) : ∀ M, ∀ d, d ∈ keysM (mdelM M a) → d ∈ keysM M
  | [], d => fun h => h
  | p :: M, d => by
    have ih := keys_mdel a M d
    rw [mdel_cons]
    unfold keysM at ih ⊢
    by_cases h : a = p.1
    · rw [if_pos h, List.map_cons]; exact fun q => List.mem_cons_of_mem _ q
    · rw [if_neg h, List.map_cons, List.map_cons, List.mem_cons, List.mem_cons]
      rintro (e | e)
      · exact .inl e
      · exact .inr (ih e)
theorem nodup_mdel (a : Id) : ∀ M, (keysM M).Nodup → (keysM (mdelM M a)).Nodup
  | [], h => h
  | p :: M, h => by
    have h' : p.1 ∉ keysM M ∧ (keysM M).Nodup := List.nodup_cons.1 h
    rw [mdel_cons]
    by_cases e : a = p.1
    · rw [if_pos e]; exact h'.2
    · rw [if_neg e]
      show (p.1 :: keysM (mdelM M a)).Nodup
      rw [List.nodup_cons]
      exact ⟨fun q => h'.1 (keys_mdel a M _ q), nodup_mdel a M h'.2⟩
theorem mget_none (d : Id) : ∀ M, d ∉ keysM M → mget M d = none
  | [], _ => rfl
  | p :: M, h => by
    have h' : ¬ (d = p.1 ∨ d ∈ keysM M) := fun q => h (List.mem_cons.2 q)
    rw [mget_cons, if_neg (fun e => h' (.inl e))]
    exact mget_none d M (fun q => h' (.inr q))
theorem mget_mdel (a d : Id) : ∀ M, (keysM M).Nodup → mget (mdelM M a) d = if d = a then none else mget M d
  | [], _ => by show (none : Option Key) = if d = a then none else none; split <;> rfl
  | p :: M, h => by
    have h' : p.1 ∉ keysM M ∧ (keysM M).Nodup := List.nodup_cons.1 h
    rw [mdel_cons]
    by_cases e : a = p.1
    · rw [if_pos e, mget_cons]
      by_cases h2 : d = a
      · rw [if_pos h2]; exact mget_none d M (by rw [h2, e]; exact h'.1)
      · rw [if_neg h2, if_neg (fun q => h2 (q.trans e.symm))]
    · rw [if_neg e, mget_cons, mget_cons, mget_mdel a d M h'.2]
      by_cases h2 : d = a
      · rw [if_pos h2, if_neg (fun q => e (h2.symm.trans q)), if_pos h2]
      · simp [h2]
theorem unl1_spec (k : Key) (M : List (Id × Key)) (c : Call) (hn : (keysM M).Nodup) : (keysM (unl1 k M c)).Nodup ∧ ∀ d, mget (unl1 k M c) d = if d = c.id ∧ mget M d = some k then none else mget M d := by
  unfold unl1
  by_cases h : (mget M c.id).getD zKey = k
  · rw [if_pos h]
    refine ⟨nodup_mdel _ _ hn, fun d => ?_⟩
    rw [mget_mdel _ _ _ hn]
    by_cases e : d = c.id
    · subst e
      rw [if_pos rfl]
      cases hm : mget M c.id with
      | none => simp
      | some k' => rw [hm] at h; simp at h; simp [h]
    · rw [if_neg e, if_neg (fun q => e q.1)]
  · rw [if_neg h]
    refine ⟨hn, fun d => ?_⟩
    rw [if_neg]
    rintro ⟨e, hm⟩
    rw [e] at hm
    rw [hm] at h
    exact h rfl
theorem unlM_spec (k : Key) : ∀ (l : List Call) (M : List (Id × Key)), (keysM M).Nodup → (keysM (unlM M k l)).Nodup ∧ ∀ d, mget (unlM M k l) d = if (∃ c ∈ l, c.id = d) ∧ mget M d = some k then none else mget M d
  | [], M, hn => ⟨hn, fun d => by rw [if_neg (by simp)]; rfl⟩
  | c :: l, M, hn => by
    obtain ⟨h1, h2⟩ := unl1_spec k M c hn
    obtain ⟨h3, h4⟩ := unlM_spec k l (unl1 k M c) h1
    refine ⟨h3, fun d => ?_⟩
    show mget (unlM (unl1 k M c) k l) d = _
    rw [h4]
    by_cases hm : mget M d = some k
    · by_cases e : d = c.id
      · have hz : mget (unl1 k M c) d = none := by rw [h2, if_pos ⟨e, hm⟩]
        rw [hz, if_neg (fun q => by cases q.2), if_pos ⟨⟨c, by simp, e.symm⟩, hm⟩]
      · have hz : mget (unl1 k M c) d = mget M d := by rw [h2, if_neg (fun q => e q.1)]
        rw [hz]
        by_cases hl : ∃ c ∈ l, c.id = d
        · obtain ⟨c', h5, h6⟩ := hl
          rw [if_pos ⟨⟨c', h5, h6⟩, hm⟩, if_pos ⟨⟨c', by simp [h5], h6⟩, hm⟩]
        · rw [if_neg (fun q => hl q.1), if_neg]
          rintro ⟨⟨c', h5, h6⟩, _⟩
          rcases List.mem_cons.1 h5 with rfl | h5
          · exact e h6.symm
          · exact hl ⟨c', h5, h6⟩
    · have hz : mget (unl1 k M c) d = mget M d := by rw [h2, if_neg (fun q => hm q.2)]
      rw [hz, if_neg (fun q => hm q.2), if_neg (fun q => hm q.2)]
theorem lnkM_spec (k : Key) : ∀ (l : List Call) (M : List (Id × Key)), (keysM M).Nodup → (keysM (lnkM M k l)).Nodup ∧ ∀ d, ((∃ c ∈ l, c.id = d) → mget (lnkM M k l) d = some k) ∧ ((¬ ∃ c ∈ l, c.id = d) → mget (lnkM M k l) d = mget M d)
  | [], M, hn => ⟨hn, fun d => ⟨fun ⟨c, h, _⟩ => (by simp at h), fun _ => rfl⟩⟩
  | c :: l, M, hn => by
    obtain ⟨h3, h4⟩ := lnkM_spec k l (lnk1 k M c) (nodup_mput _ _ _ hn)
    refine ⟨h3, fun d => ?_⟩
    show (_ → mget (lnkM (lnk1 k M c) k l) d = _) ∧ (_ → mget (lnkM (lnk1 k M c) k l) d = _)
    have hp := mget_mput c.id k d M
    by_cases hl : ∃ c ∈ l, c.id = d
    · rw [(h4 d).1 hl]
      refine ⟨fun _ => rfl, fun hn => ?_⟩
      obtain ⟨c', h5, h6⟩ := hl
      exact absurd ⟨c', by simp [h5], h6⟩ hn
    · rw [(h4 d).2 hl]
      show (_ → mget (mputM M c.id k) d = _) ∧ (_ → mget (mputM M c.id k) d = _)
      rw [hp]
      by_cases e : d = c.id
      · rw [if_pos e]
        exact ⟨fun _ => rfl, fun hn => absurd ⟨c, by simp, e.symm⟩ hn⟩
      · rw [if_neg e]
        refine ⟨fun ⟨c', h5, h6⟩ => ?_, fun _ => rfl⟩
        rcases List.mem_cons.1 h5 with rfl | h5
        · exact absurd h6.symm e
        · exact absurd ⟨c', h5, h6⟩ hl
/-- The map tells the owner of each call. -/
def Rel (T : List Owner) (M : List (Id × Key)) : Prop := (keysM M).Nodup ∧ ∀ d k, mget M d = some k ↔ ∃ x ∈ T, x.key = k ∧ ∃ c ∈ x.calls, c.id = d
theorem findI_iff (l : List Call) (d : Id) : findI l d ≥ 0 ↔ ∃ c ∈ l, c.id = d := by
  unfold findI
  cases h : l.findIdx? (fun c => c.id == d) with
  | none =>
    rw [List.findIdx?_eq_none_iff] at h
    constructor
    · intro q; simp at q
    · rintro ⟨c, hc, e⟩; have := h c hc; simp [e] at this
  | some i =>
    obtain ⟨hi, h1, _⟩ := List.findIdx?_eq_some_iff_getElem.1 h
    constructor
    · intro _; exact ⟨l[i], List.getElem_mem hi, by simpa using h1⟩
    · intro _; simp
theorem apart_iff {T : List Owner} {o : Owner} (h : apartR T o = true) : ∀ x ∈ T, ¬ x.key = o.key → ∀ c ∈ o.calls, ¬ ∃ c' ∈ x.calls, c'.id = c.id := fun x hx hk c hc hq => by
  have h1 := List.all_eq_true.1 h x hx
  have h2 := List.all_eq_true.1 h1 c hc
  rw [decide_eq_false hk] at h2
  have h3 := (findI_iff x.calls c.id).2 hq
  simp at h2
  omega
theorem rel_put {T T' : List Owner} {M M1 : List (Id × Key)} {o : Owner} (h : Rel T M) (ha : ∀ x ∈ T, ¬ x.key = o.key → ∀ c ∈ o.calls, ¬ ∃ c' ∈ x.calls, c'.id = c.id) (hT : ∀ y, y ∈ T' ↔ y = o ∨ (y ∈ T ∧ ¬ y.key = o.key))
    (hn : (keysM M1).Nodup) (h1 : ∀ d, mget M1 d = if mget M d = some o.key then none else mget M d) : Rel T' (lnkM M1 o.key o.calls) := by
  obtain ⟨h2, h3⟩ := lnkM_spec o.key o.calls M1 hn
  refine ⟨h2, fun d k => ?_⟩
  by_cases hd : ∃ c ∈ o.calls, c.id = d
  · rw [(h3 d).1 hd]
    constructor
    · intro e
      exact ⟨o, (hT o).2 (.inl rfl), Option.some.inj e, hd⟩
    · rintro ⟨x, hx, rfl, c', hc', e⟩
      rcases (hT x).1 hx with rfl | ⟨hx, hk⟩
      · rfl
      · obtain ⟨c, hc, e2⟩ := hd
        exact absurd ⟨c', hc', e.trans e2.symm⟩ (ha x hx hk c hc)
  · rw [(h3 d).2 hd, h1]
    by_cases hm : mget M d = some o.key
    · rw [if_pos hm]
      constructor
      · intro e; cases e
      · rintro ⟨x, hx, rfl, hc⟩
        rcases (hT x).1 hx with rfl | ⟨hx, hk⟩
        · exact absurd hc hd
        · have := (h.2 d x.key).2 ⟨x, hx, rfl, hc⟩
          rw [hm] at this
          exact absurd (Option.some.inj this).symm hk
    · rw [if_neg hm, h.2]
      constructor
      · rintro ⟨x, hx, rfl, hc⟩
        refine ⟨x, (hT x).2 (.inr ⟨hx, fun e => hm ?_⟩), rfl, hc⟩
        rw [← e]; exact (h.2 d x.key).2 ⟨x, hx, rfl, hc⟩
      · rintro ⟨x, hx, rfl, hc⟩
        rcases (hT x).1 hx with rfl | ⟨hx, hk⟩
        · exact absurd hc hd
        · exact ⟨x, hx, rfl, hc⟩
theorem unl_own {T : List Owner} {M : List (Id × Key)} (h : Rel T M) (hr : rises T) {x : Owner} (hx : x ∈ T) : ∀ d, mget (unlM M x.key x.calls) d = if mget M d = some x.key then none else mget M d := fun d => by
  rw [(unlM_spec x.key x.calls M h.1).2]
  by_cases hm : mget M d = some x.key
  · obtain ⟨y, hy, e, hc⟩ := (h.2 d x.key).1 hm
    rw [key_inj hr hy hx e] at hc
    rw [if_pos ⟨hc, hm⟩, if_pos hm]
  · rw [if_neg (fun q => hm q.2), if_neg hm]
structure Good (t : Tab) : Prop where
  rs : rises t.T
  ok : okE t.E
  ten : ∀ x ∈ t.T, x.calls.length ≤ 10
  rel : Rel t.T t.M
theorem good_0 : Good ⟨[], [], []⟩ := ⟨List.Pairwise.nil, fun r hr => by simp at hr, fun x hx => by simp at hx, List.nodup_nil, fun d k => ⟨fun h => (by cases h), fun ⟨x, hx, _⟩ => (by simp at hx)⟩⟩
theorem okE_z : okE [zOwner.gw .nils] := fun r hr => by
  rw [List.mem_singleton.1 hr]
  exact ⟨rfl, fun g hg => List.all_eq_true.1 (show (zOwner.gw .nils).all G.closed0 = true from rfl) g hg⟩
theorem good_put {t : Tab} (h : Good t) {o : Owner} (ho : o.calls.length ≤ 10) (ha : apartR t.T o = true) : Good (putTab t o) ∧ (putTab t o).T.length ≤ t.T.length + 1 := by
  have hT := putTab_T t h.rs o
  have hm := mem_putS h.rs o
  refine ⟨⟨by rw [hT]; exact rises_putS h.rs o, ?_, fun x hx => ?_, ?_⟩, by rw [hT]; exact len_putS _ _⟩
  · unfold putTab
    split
    · split
      · exact h.ok
      · exact fun r hr => by simp at hr
    · exact fun r hr => by simp at hr
  · rw [hT] at hx
    rcases (hm x).1 hx with rfl | ⟨hx, _⟩
    · exact ho
    · exact h.ten x hx
  · have hT' : ∀ y, y ∈ (putTab t o).T ↔ y = o ∨ (y ∈ t.T ∧ ¬ y.key = o.key) := by rw [hT]; exact hm
    have hap := apart_iff ha
    have new : (∀ x ∈ t.T, ¬ x.key = o.key) → Rel (putTab t o).T (lnkM t.M o.key o.calls) := fun hno => rel_put h.rel hap hT' h.rel.1 (fun d => by
      rw [if_neg]
      intro e
      obtain ⟨x, hx, e, _⟩ := (h.rel.2 d o.key).1 e
      exact hno x hx e)
    have hg := mem_getT h.rs
    have no : getT t.T o.key = none → ∀ x ∈ t.T, ¬ x.key = o.key := fun e x hx hk => by
      have := hg x hx; rw [hk, e] at this; cases this
    unfold getT at no
    unfold putTab at *
    cases hq : t.T[posT t.T o.key]? with
    | none =>
      simp only [hq] at no new ⊢
      exact new (no (by first | rfl | trivial))
    | some x =>
      simp only [hq] at no new hT' ⊢
      by_cases hk : x.key = o.key
      · simp only [if_pos hk] at hT' ⊢
        have hx := List.mem_of_getElem? hq
        have h1 := unl_own h.rel h.rs hx
        rw [hk] at h1 ⊢
        exact rel_put h.rel hap hT' (unlM_spec _ _ _ h.rel.1).1 h1
      · simp only [if_neg hk] at no new ⊢
        exact new (no (by first | rfl | trivial))
theorem good_drop {t : Tab} (h : Good t) (k : Key) : Good (dropTab t k) ∧ (dropTab t k).T.length ≤ t.T.length := by
  have hT := dropTab_T t h.rs k
  refine ⟨⟨by rw [hT]; exact rises_dropS h.rs k, ?_, fun x hx => ?_, ?_⟩, by rw [hT]; exact List.length_filter_le _ _⟩
  · unfold dropTab
    split
    · split
      · exact okE_z
      · exact h.ok
    · exact h.ok
  · rw [hT] at hx
    exact h.ten x (mem_dropS.1 hx).1
  · unfold dropTab at *
    cases hq : t.T[posT t.T k]? with
    | none => exact h.rel
    | some x =>
      simp only [hq] at hT ⊢
      by_cases hk : x.key = k
      · simp only [if_pos hk] at hT ⊢
        have hx := List.mem_of_getElem? hq
        have h1 := unl_own h.rel h.rs hx
        refine ⟨(unlM_spec _ _ _ h.rel.1).1, fun d k' => ?_⟩
        rw [h1, hT]
        by_cases hm : mget t.M d = some x.key
        · rw [if_pos hm]
          constructor
          · intro e; cases e
          · rintro ⟨y, hy, rfl, hc⟩
            obtain ⟨hy, hne⟩ := mem_dropS.1 hy
            have := (h.rel.2 d y.key).2 ⟨y, hy, rfl, hc⟩
            rw [hm] at this
            exact absurd ((Option.some.inj this).symm.trans hk) hne
        · rw [if_neg hm, h.rel.2]
          constructor
          · rintro ⟨y, hy, rfl, hc⟩
            refine ⟨y, mem_dropS.2 ⟨hy, fun e => hm ?_⟩, rfl, hc⟩
            rw [hk, ← e]; exact (h.rel.2 d y.key).2 ⟨y, hy, rfl, hc⟩
          · rintro ⟨y, hy, rfl, hc⟩
            exact ⟨y, (mem_dropS.1 hy).1, rfl, hc⟩
      · simp only [if_neg hk]
        exact h.rel
theorem call_alike {t : Tab} (h : Good t) (d : Id) : callR t.T d = (mget t.M d).bind (getT t.T) := by
  unfold callR
  cases hq : t.T.find? (fun x => decide (findI x.calls d ≥ 0)) with
  | none =>
    rw [List.find?_eq_none] at hq
    have : mget t.M d = none := by
      cases hm : mget t.M d with
      | none => rfl
      | some k =>
        obtain ⟨x, hx, _, hc⟩ := (h.rel.2 d k).1 hm
        have := hq x hx
        simp only [decide_eq_true_eq] at this
        exact absurd ((findI_iff _ _).2 hc) this
    rw [this]; rfl
  | some x =>
    have hx := List.mem_of_find?_eq_some hq
    have h1 := List.find?_some hq
    simp only [decide_eq_true_eq] at h1
    have := (h.rel.2 d x.key).2 ⟨x, hx, rfl, (findI_iff _ _).1 h1⟩
    rw [this]
    exact (mem_getT h.rs x hx).symm
/-! In whatever order owners of unlike keys are put. -/
theorem snocInd {α : Type} {M : List α → Prop} (h0 : M []) (h1 : ∀ l x, M l → M (l ++ [x])) (l : List α) : M l := by
  rw [← List.reverse_reverse l]
  induction l.reverse with
  | nil => exact h0
  | cons x r ih => rw [List.reverse_cons]; exact h1 _ _ ih
def putAll (l : List Owner) : List Owner := l.foldl putS []
def unlike (l : List Owner) : Prop := l.Pairwise fun a b => ¬ a.key = b.key
theorem putAll_snoc (l : List Owner) (o : Owner) : putAll (l ++ [o]) = putS (putAll l) o := by unfold putAll; rw [List.foldl_append]; rfl
theorem putAll_spec (l : List Owner) : rises (putAll l) ∧ (putAll l).length ≤ l.length ∧ ∀ y ∈ putAll l, y ∈ l := by
  refine snocInd (M := fun l => rises (putAll l) ∧ (putAll l).length ≤ l.length ∧ ∀ y ∈ putAll l, y ∈ l) ⟨List.Pairwise.nil, Nat.le_refl _, fun y hy => hy⟩ (fun l o ih => ?_) l
  · obtain ⟨h1, h2, h3⟩ := ih
    rw [putAll_snoc]
    refine ⟨rises_putS h1 o, ?_, fun y hy => ?_⟩
    · have := len_putS (putAll l) o; simp; omega
    · rcases (mem_putS h1 o y).1 hy with rfl | ⟨hy, _⟩
      · simp
      · simp [h3 y hy]
theorem putAll_mem (l : List Owner) (h : unlike l) : ∀ y, y ∈ putAll l ↔ y ∈ l := by
  revert h
  refine snocInd (M := fun l => unlike l → ∀ y, y ∈ putAll l ↔ y ∈ l) (fun _ y => Iff.rfl) (fun l o ih h => ?_) l
  · unfold unlike at h ih
    rw [List.pairwise_append] at h
    have ih := ih h.1
    intro y
    rw [putAll_snoc, mem_putS (putAll_spec l).1, ih, List.mem_append, List.mem_singleton]
    constructor
    · rintro (e | ⟨h1, _⟩)
      · exact .inr e
      · exact .inl h1
    · rintro (h1 | e)
      · exact .inr ⟨h1, h.2.2 y h1 o (by simp)⟩
      · exact .inl e
theorem rises_nodup {T : List Owner} (h : rises T) : T.Nodup := by
  unfold rises at h
  refine List.Pairwise.imp (fun {a b} hab => ?_) h
  intro e; rw [e, cKey_self] at hab; omega
theorem rises_ext {A B : List Owner} (ha : rises A) (hb : rises B) (h : ∀ y, y ∈ A ↔ y ∈ B) : A = B := by
  have hp : A.Perm B := (List.perm_ext_iff_of_nodup (rises_nodup ha) (rises_nodup hb)).2 h
  unfold rises at ha hb
  refine List.Perm.eq_of_pairwise (le := fun a b => cKey a.key b.key = -1) (fun a b _ _ h1 h2 => ?_) ha hb hp
  have := cKey_anti a.key b.key
  omega
theorem putAll_rev (l : List Owner) (h : unlike l) : putAll l.reverse = putAll l ∧ (putAll l).length = l.length := by
  have hr : unlike l.reverse := by
    unfold unlike; rw [List.pairwise_reverse]; exact List.Pairwise.imp (fun {a b} q e => q e.symm) h
  refine ⟨rises_ext (putAll_spec _).1 (putAll_spec _).1 fun y => by rw [putAll_mem _ hr, putAll_mem _ h, List.mem_reverse], ?_⟩
  have hn : l.Nodup := List.Pairwise.imp (fun {a b} q e => q (by rw [e])) h
  exact ((List.perm_ext_iff_of_nodup (rises_nodup (putAll_spec l).1) hn).2 (putAll_mem l h)).length_eq
end Go.Proofs.Ytcihkmnolagdlaa.Sp
namespace Go.Proofs.Ytcihkmnolagdlaa.Cn
open Go Go.Proofs Go.Proofs.Ytcihkmnolagdlaa.Av Go.Proofs.Ytcihkmnolagdlaa.Sp
set_option linter.unusedVariables false
set_option linter.unusedSimpArgs false
set_option linter.unusedSectionVars false
set_option maxRecDepth 100000
attribute [local irreducible] Fv Fp

theorem alike_good {t : Tab} (h : Good t) : Alike t :=
  ⟨fun o => by rw [putR_S h.rs, putTab_T t h.rs], fun k => ⟨by rw [dropR_S h.rs, dropTab_T t h.rs], at_get h.rs k⟩, fun k => get_alike h.rs k, fun d => call_alike h d⟩
theorem good_ok {t : Tab} (h : Good t) : okT t := ⟨h.rs, h.ok, fun x hx => okC_10 (h.ten x hx)⟩
theorem good_step {t : Tab} (h : Good t) (d : Tdeed) (ho : d.o.calls.length ≤ 10) (ha : apartR t.T d.o = true) : Good (stepTab t d) ∧ (stepTab t d).T.length ≤ t.T.length + 1 := by
  unfold stepTab
  split
  · exact good_put h ho ha
  · split
    · have := good_drop h d.k; exact ⟨this.1, by omega⟩
    · exact ⟨h, by omega⟩
theorem law24_does (t : Tab) (d : Tdeed) (h : Good t) (ho : d.o.calls.length ≤ 10) (hs : t.T.length ≤ 40) :
    Fp Try.prog 19 [.ptr 0 0, .ptr 1 0, .agg d.g] [tb t.T.length, [.own 2 0 t.T.length]] [t.r, t.M.map mrow, t.T.map Owner.g]
      (.bool true, [some (tb (stepTab t d).T.length), some [.own 2 0 (stepTab t d).T.length]], [some (stepTab t d).r, some ((stepTab t d).M.map mrow), some ((stepTab t d).T.map Owner.g)]) := by
  obtain ⟨kind, o, k⟩ := d
  have ha := alike_good h
  have ht := good_ok h
  unfold stepTab
  simp only
  by_cases h0 : kind = 0 ∨ kind = 1 ∨ kind = 2
  · rw [if_pos h0]; exact does_put t kind o k h0 ht ha ho hs
  · rw [if_neg h0]
    by_cases h3 : kind = 3
    · subst h3; rw [if_pos rfl]; exact does_drop t o k ht ha hs
    · rw [if_neg h3]
      by_cases h4 : kind = 4
      · subst h4; exact does_get t o k ht ha h.ten hs
      · by_cases h5 : kind = 5
        · subst h5; exact does_call t o k ht ha h.ten hs
        · by_cases h6 : kind = 6
          · subst h6; exact does_under t o k hs
          · exact does_no t kind o k (by omega)
theorem keyP0 (T : List Owner) : T.filter (keyP 0) = T := by rw [List.filter_eq_self]; intro x _; rfl
theorem keyP1 (T : List Owner) : (T.map Owner.key).filter (fun k => k.att != 0) = (T.filter (keyP 1)).map Owner.key := by
  rw [List.filter_map]; rfl
set_option maxHeartbeats 32000000 in
theorem law24_TablePlays (l : List Tdeed) (hl : l.length < 4611686018427387904) : Fv Try.prog 4 [.sl (l.map Tdeed.g)] (.bool true) := by
  refine Fv.of_awp Try.func4 rfl (by kernel_rfl) rfl (Nat.le_of_ble_eq_true rfl) ?_
  repeat' (conv => whnf
           first
           | (refine And.intro (Or.inl (by kernel_rfl)) ?_)
           | (refine And.intro (by kernel_rfl) ?_)
           | (refine And.intro ⟨by kernel_rfl, by kernel_rfl⟩ ?_)
           | (refine Or.inr ⟨_, table_New, ?_⟩)
           | (refine cond_f ?_ ?_)
           | (refine ⟨_, ⟨by decide, rfl⟩, ?_⟩)
           | (refine cond_i (fun h => ?_) (fun h => ?_)))
  all_goals (conv => whnf)
  refine Has.own0B 8 0 8 rfl rfl rfl ?_
  refine Has.each [0, 2, 3, 4, 5] [1048, 1050, 1056, 1058] (min l.length 40) (fun k (t : Tab) => Good t ∧ t.T.length ≤ k) (fun t i =>
    St.of 63 [(0, .sl (l.map Tdeed.g)), (2, .bool false), (3, .ptr 6 0), (4, .ptr 8 0), (5, .int .i64 i)] [(6, [.own 6 0 t.T.length, .mp 63 3 3]), (8, [.own 8 0 t.T.length])] [(6, t.r), (63, t.M.map mrow), (8, t.T.map Owner.g)]) ⟨⟨[], [], []⟩, _, rfl, ⟨good_0, Nat.le_refl _⟩, rfl⟩ (fun k t hk hI => ?_) (fun t hI => ?_)
  · obtain ⟨hG, hn⟩ := hI
    have hkl : k < l.length := by omega
    have f1 := row_at (R := Tdeed.g) hkl
    have c1 := lt_at (R := Tdeed.g) hkl
    have c2 : decide ((k : Int) < 40) = true := by simp; omega
    have wj : IntKind.i64.wrap ((k : Int) + 1) = k + 1 := wrap_i64 (by omega)
    have hs : t.T.length ≤ 40 := by omega
    generalize l[k] = d at *
    by_cases ho : d.o.calls.length ≤ 10
    · have c3 : decide (((d.o.calls.map Call.g).length : Int) > 10) = false := by rw [List.length_map]; simp; omega
      have c4 := ref24_Apart t.T d.o hs (fun x hx => okC_10 (hG.ten x hx)) ho
      cases hap : apartR t.T d.o with
      | false =>
        rw [hap] at c4
        generalize t.T.map Owner.g = R at *
        generalize t.M.map mrow = Mr at *
        generalize t.r = r at *
        generalize t.T.length = n at *
        refine awp_go ?_
        repeat' (conv => whnf
                 first
                 | (refine And.intro (Or.inl (by kernel_rfl)) ?_)
                 | (refine And.intro (by kernel_rfl) ?_)
                 | (refine And.intro ⟨by kernel_rfl, by kernel_rfl⟩ ?_)
                 | (refine cond_1 c1 ?_)
                 | (refine cond_1 c2 ?_)
                 | (refine ⟨_, f1, ?_⟩)
                 | (refine cond_0 c3 ?_)
                 | (refine Or.inr ⟨_, c4, ?_⟩)
                 | (refine Or.inl ⟨_, law24_awake, ?_⟩)
                 | (refine ⟨_, law24_awake, ?_⟩)
                 | (refine cond_f ?_ ?_)
                 | (refine ⟨_, ⟨by decide, rfl⟩, ?_⟩)
                 | (refine cond_i (fun h => ?_) (fun h => ?_)))
        all_goals (conv => whnf)
        all_goals rfl
      | true =>
        rw [hap] at c4
        obtain ⟨hG', hn'⟩ := good_step hG d ho hap
        have k1 := law24_does t d hG ho hs
        generalize stepTab t d = u at *
        have hs' : u.T.length ≤ 40 := by omega
        have k2 := table_Keys u hs'
        have k3 := ref24_Keys u.T 0 hs'
        rw [keyP0] at k3
        have k4 := ref24_Same (u.T.map Owner.key) (by rw [List.length_map]; omega)
        rw [List.map_map] at k4
        change Fv Try.prog _ [.sl (u.T.map okey), .sl (u.T.map okey)] _ at k4
        have g1 : 0 + u.T.length ≤ (u.T.map okey).length := by simp
        have g2 : ((u.T.map okey).drop 0).take u.T.length = u.T.map okey := by rw [List.drop_zero]; exact List.take_of_length_le (by simp)
        have k5 := table_Running u hs'
        have k6 := ref24_Keys u.T 1 hs'
        rw [keyP1, List.map_map, List.length_map] at k5
        have hF : (u.T.filter (keyP 1)).length ≤ 40 := Nat.le_trans (List.length_filter_le _ _) hs'
        generalize u.T.filter (keyP 1) = F at *
        have k7 := ref24_Same (F.map Owner.key) (by rw [List.length_map]; omega)
        rw [List.map_map] at k7
        change Fv Try.prog _ [.sl (F.map okey), .sl (F.map okey)] _ at k7
        have g3 : 0 + F.length ≤ (F.map okey).length := by simp
        have g4 : ((F.map okey).drop 0).take F.length = F.map okey := by rw [List.drop_zero]; exact List.take_of_length_le (by simp)
        change Fp Try.prog _ _ _ _ (_, _, [_, _, some (F.map okey ++ List.replicate (u.T.length - F.length) zKey.g)]) at k5
        have g5 : 0 + F.length ≤ (F.map okey ++ List.replicate (u.T.length - F.length) zKey.g).length := by simp
        have g6 : ((F.map okey ++ List.replicate (u.T.length - F.length) zKey.g).drop 0).take F.length = F.map okey := by rw [List.drop_zero]; exact List.take_left' (by simp)
        generalize F.map okey ++ List.replicate (u.T.length - F.length) zKey.g = Z at *
        generalize F.map okey = Y at *
        generalize F.length = m at *
        generalize u.T.map okey = X at *
        generalize hR' : u.T.map Owner.g = R' at *
        generalize hM' : u.M.map mrow = M' at *
        generalize hr' : u.r = r' at *
        generalize hu' : u.T.length = n' at *
        generalize t.T.map Owner.g = R at *
        generalize t.M.map mrow = Mr at *
        generalize t.r = r at *
        generalize t.T.length = n at *
        refine awp_go ?_
        repeat' (conv => whnf
                 first
                 | (refine And.intro (Or.inl (by kernel_rfl)) ?_)
                 | (refine And.intro (by kernel_rfl) ?_)
                 | (refine And.intro ⟨by kernel_rfl, by kernel_rfl⟩ ?_)
                 | (refine cond_1 c1 ?_)
                 | (refine cond_1 c2 ?_)
                 | (refine ⟨_, f1, ?_⟩)
                 | (refine cond_0 c3 ?_)
                 | (refine Or.inr ⟨_, c4, ?_⟩)
                 | (refine Or.inr ⟨_, k1, ?_⟩)
                 | (refine Or.inr ⟨_, k2, ?_⟩)
                 | (refine Or.inr ⟨_, k3, ?_⟩)
                 | (refine Or.inr ⟨_, k5, ?_⟩)
                 | (refine Or.inr ⟨_, k6, ?_⟩)
                 | (refine Or.inl ⟨_, k4, ?_⟩)
                 | (refine ⟨_, k4, ?_⟩)
                 | (refine Or.inl ⟨_, k7, ?_⟩)
                 | (refine ⟨_, k7, ?_⟩)
                 | (refine ⟨g1, ?_⟩)
                 | (refine ⟨g5, ?_⟩)
                 | (refine ⟨g3, ?_⟩)
                 | (rw [g2])
                 | (rw [g4])
                 | (rw [g6])
                 | (refine Or.inl ?_)
                 | (refine cond_f ?_ ?_)
                 | (refine ⟨_, ⟨by decide, rfl⟩, ?_⟩)
                 | (refine cond_i (fun h => ?_) (fun h => ?_)))
        all_goals (conv => whnf)
        subst hR'; subst hM'; subst hr'; subst hu'
        exact ⟨u, _, rfl, ⟨hG', by omega⟩, wj⟩
    · have c3 : decide (((d.o.calls.map Call.g).length : Int) > 10) = true := by rw [List.length_map]; simp; omega
      generalize t.T.map Owner.g = R at *
      generalize t.M.map mrow = Mr at *
      generalize t.r = r at *
      generalize t.T.length = n at *
      refine awp_go ?_
      repeat' (conv => whnf
               first
               | (refine And.intro (Or.inl (by kernel_rfl)) ?_)
               | (refine And.intro (by kernel_rfl) ?_)
               | (refine And.intro ⟨by kernel_rfl, by kernel_rfl⟩ ?_)
               | (refine cond_1 c1 ?_)
               | (refine cond_1 c2 ?_)
               | (refine ⟨_, f1, ?_⟩)
               | (refine cond_1 c3 ?_)
               | (refine Or.inl ⟨_, law24_awake, ?_⟩)
               | (refine ⟨_, law24_awake, ?_⟩)
               | (refine cond_f ?_ ?_)
               | (refine ⟨_, ⟨by decide, rfl⟩, ?_⟩)
               | (refine cond_i (fun h => ?_) (fun h => ?_)))
      all_goals (conv => whnf)
      all_goals rfl
  · generalize t.T.map Owner.g = R at *
    generalize t.M.map mrow = Mr at *
    generalize t.r = r at *
    generalize t.T.length = n at *
    by_cases h40 : l.length < 40
    · have e : min l.length 40 = l.length := by omega
      rw [e]
      refine awp_go ?_
      repeat' (conv => whnf
               first
               | (refine And.intro (Or.inl (by kernel_rfl)) ?_)
               | (refine And.intro (by kernel_rfl) ?_)
               | (refine And.intro ⟨by kernel_rfl, by kernel_rfl⟩ ?_)
               | (refine cond_0 lt_end ?_)
               | (refine Or.inl ⟨_, law24_awake, ?_⟩)
               | (refine ⟨_, law24_awake, ?_⟩)
               | (refine cond_f ?_ ?_)
               | (refine ⟨_, ⟨by decide, rfl⟩, ?_⟩)
               | (refine cond_i (fun h => ?_) (fun h => ?_)))
      all_goals (conv => whnf)
      all_goals rfl
    · have e : min l.length 40 = 40 := by omega
      rw [e]
      have c1 : decide (((40 : Nat) : Int) < ((l.map Tdeed.g).length : Int)) = true ∨ l.length = 40 := by
        by_cases q : l.length = 40
        · exact .inr q
        · exact .inl (by simp; omega)
      rcases c1 with c1 | c1
      · refine awp_go ?_
        repeat' (conv => whnf
                 first
                 | (refine And.intro (Or.inl (by kernel_rfl)) ?_)
                 | (refine And.intro (by kernel_rfl) ?_)
                 | (refine And.intro ⟨by kernel_rfl, by kernel_rfl⟩ ?_)
                 | (refine cond_1 c1 ?_)
                 | (refine Or.inl ⟨_, law24_awake, ?_⟩)
                 | (refine ⟨_, law24_awake, ?_⟩)
                 | (refine cond_f ?_ ?_)
                 | (refine ⟨_, ⟨by decide, rfl⟩, ?_⟩)
                 | (refine cond_i (fun h => ?_) (fun h => ?_)))
        all_goals (conv => whnf)
        all_goals rfl
      · have c2 : decide (((40 : Nat) : Int) < ((l.map Tdeed.g).length : Int)) = false := by simp; omega
        refine awp_go ?_
        repeat' (conv => whnf
                 first
                 | (refine And.intro (Or.inl (by kernel_rfl)) ?_)
                 | (refine And.intro (by kernel_rfl) ?_)
                 | (refine And.intro ⟨by kernel_rfl, by kernel_rfl⟩ ?_)
                 | (refine cond_0 c2 ?_)
                 | (refine Or.inl ⟨_, law24_awake, ?_⟩)
                 | (refine ⟨_, law24_awake, ?_⟩)
                 | (refine cond_f ?_ ?_)
                 | (refine ⟨_, ⟨by decide, rfl⟩, ?_⟩)
                 | (refine cond_i (fun h => ?_) (fun h => ?_)))
        all_goals (conv => whnf)
        all_goals rfl
end Go.Proofs.Ytcihkmnolagdlaa.Cn
namespace Go.Proofs.Ytcihkmnolagdlaa.Cn
open Go Go.Proofs Go.Proofs.Ytcihkmnolagdlaa.Av Go.Proofs.Ytcihkmnolagdlaa.Sp
set_option linter.unusedVariables false
set_option linter.unusedSimpArgs false
set_option linter.unusedSectionVars false
set_option maxRecDepth 100000
attribute [local irreducible] Fv Fp

theorem table_New0 : Fp Try.prog 7 [] [] [] (.ptr 0 0, [some [.nils, .mp 0 3 3]], [some []]) := by
  refine Fp.of_awp Try.func7 rfl (by kernel_rfl) (Nat.le_of_ble_eq_true rfl) ?_
  repeat' (conv => whnf
           first
           | (refine And.intro (Or.inl (by kernel_rfl)) ?_)
           | (refine And.intro (by kernel_rfl) ?_)
           | (refine And.intro ⟨by kernel_rfl, by kernel_rfl⟩ ?_)
           | (refine cond_f ?_ ?_)
           | (refine ⟨_, ⟨by decide, rfl⟩, ?_⟩)
           | (refine cond_i (fun h => ?_) (fun h => ?_)))
  all_goals (conv => whnf)
  all_goals rfl
/-- After k rounds. -/
structure OrdI (l : List Owner) (k : Nat) (p : Tab × Tab) : Prop where
  ta : p.1.T = putAll (l.take k)
  tb : p.2.T = putAll (l.reverse.take k)
  ea : okE p.1.E
  eb : okE p.2.E
  dk : unlike (l.take k)
  tn : ∀ x ∈ l.take k, x.calls.length ≤ 10
theorem putTab_E {t : Tab} (h : okE t.E) (o : Owner) : okE (putTab t o).E := by
  unfold putTab
  split
  · split
    · exact h
    · exact fun r hr => by simp at hr
  · exact fun r hr => by simp at hr
theorem OrdI.ok {l : List Owner} {k : Nat} {p : Tab × Tab} (h : OrdI l k p) (hC : ∀ x ∈ l, okC x.calls) : okT p.1 ∧ okT p.2 := by
  have h1 := putAll_spec (l.take k)
  have h2 := putAll_spec (l.reverse.take k)
  refine ⟨⟨by rw [h.ta]; exact h1.1, h.ea, fun x hx => ?_⟩, ⟨by rw [h.tb]; exact h2.1, h.eb, fun x hx => ?_⟩⟩
  · rw [h.ta] at hx; exact hC x (List.mem_of_mem_take (h1.2.2 x hx))
  · rw [h.tb] at hx; exact hC x (List.mem_reverse.1 (List.mem_of_mem_take (h2.2.2 x hx)))
theorem OrdI.len {l : List Owner} {k : Nat} {p : Tab × Tab} (h : OrdI l k p) : p.1.T.length ≤ k ∧ p.2.T.length ≤ k := by
  have h1 := (putAll_spec (l.take k)).2.1
  have h2 := (putAll_spec (l.reverse.take k)).2.1
  rw [h.ta, h.tb]
  rw [List.length_take] at h1 h2
  omega
theorem find_no {T : List Owner} {k : Sp.Key} : (decide (idxB (fun x : Owner => decide (x.key = k)) T ≥ 0) = false) → ∀ x ∈ T, ¬ x.key = k := fun h x hx e => by
  unfold idxB at h
  cases hq : T.findIdx? (fun x => decide (x.key = k)) with
  | none => rw [List.findIdx?_eq_none_iff] at hq; have := hq x hx; simp [e] at this
  | some i => rw [hq] at h; simp at h
theorem OrdI.step {l : List Owner} {k : Nat} {p : Tab × Tab} (h : OrdI l k p) (hk : k < l.length) (h10 : l[k].calls.length ≤ 10) (hno : ∀ x ∈ p.1.T, ¬ x.key = l[k].key) (hra : rises p.1.T) (hrb : rises p.2.T) :
    OrdI l (k + 1) (putTab p.1 l[k], putTab p.2 (l[l.length - 1 - k]'(by omega))) := by
  have e1 : l.take (k + 1) = l.take k ++ [l[k]] := List.take_succ_eq_append_getElem hk
  have e2 : l.reverse.take (k + 1) = l.reverse.take k ++ [l[l.length - 1 - k]'(by omega)] := by
    rw [List.take_succ_eq_append_getElem (by rw [List.length_reverse]; exact hk), List.getElem_reverse]
  refine ⟨?_, ?_, putTab_E h.ea _, putTab_E h.eb _, ?_, fun x hx => ?_⟩
  · rw [e1, putAll_snoc, ← h.ta]; exact putTab_T p.1 hra _
  · rw [e2, putAll_snoc, ← h.tb]; exact putTab_T p.2 hrb _
  · rw [e1]
    unfold unlike
    refine List.pairwise_append.2 ⟨h.dk, List.pairwise_singleton _ _, fun a ha b hb => ?_⟩
    rw [List.mem_singleton.1 hb]
    exact hno a (by rw [h.ta]; exact (putAll_mem _ h.dk a).2 ha)
  · rw [e1] at hx
    rcases List.mem_append.1 hx with hx | hx
    · exact h.tn x hx
    · rw [List.mem_singleton.1 hx]; exact h10
theorem alike_rises {t : Tab} (h : rises t.T) (o : Owner) : putR t.T o = (putTab t o).T := by rw [putR_S h, putTab_T t h]
set_option maxHeartbeats 32000000 in
theorem law24_TableOrder (l : List Owner) (hC : ∀ x ∈ l, okC x.calls) : Fv Try.prog 3 [.sl (l.map Owner.g)] (.bool true) := by
  refine Fv.of_awp Try.func3 rfl (by kernel_rfl) rfl (Nat.le_of_ble_eq_true rfl) ?_
  by_cases hl : l.length ≤ 20
  · have c0 : decide (((l.map Owner.g).length : Int) > 20) = false := by rw [List.length_map]; simp; omega
    repeat' (conv => whnf
             first
             | (refine And.intro (Or.inl (by kernel_rfl)) ?_)
             | (refine And.intro (by kernel_rfl) ?_)
             | (refine And.intro ⟨by kernel_rfl, by kernel_rfl⟩ ?_)
             | (refine cond_0 c0 ?_)
             | (refine Or.inr ⟨_, table_New0, ?_⟩)
             | (refine cond_f ?_ ?_)
             | (refine ⟨_, ⟨by decide, rfl⟩, ?_⟩)
             | (refine cond_i (fun h => ?_) (fun h => ?_)))
    all_goals (conv => whnf)
    refine Has.own0B 16 0 1 rfl rfl rfl ?_
    refine Has.own0B 17 0 2 rfl rfl rfl ?_
    refine Has.own0B 19 0 3 rfl rfl rfl ?_
    refine Has.each [0, 2, 3, 4, 5, 6] [] l.length (OrdI l) (fun p i =>
      St.of 132 [(0, .sl (l.map Owner.g)), (2, .bool false), (3, .ptr 16 0), (4, .ptr 17 0), (5, .ptr 19 0), (6, .int .i64 i)] [(16, [.own 1 0 p.1.T.length, .mp 16 3 3]), (17, [.own 2 0 p.2.T.length, .mp 17 3 3]), (19, [.own 3 0 p.1.T.length])] [(1, p.1.r), (16, p.1.M.map mrow), (2, p.2.r), (17, p.2.M.map mrow), (3, p.1.T.map Owner.g)])
      ⟨(⟨[], [], []⟩, ⟨[], [], []⟩), _, rfl, ⟨rfl, rfl, fun r hr => by simp at hr, fun r hr => by simp at hr, List.Pairwise.nil, fun x hx => by simp at hx⟩, rfl⟩ (fun k p hk hI => ?_) (fun p hI => ?_)
    · obtain ⟨t, u⟩ := p
      obtain ⟨ht, hu⟩ := hI.ok hC
      obtain ⟨n1, n2⟩ := hI.len
      simp only at ht hu n1 n2
      have hk2 : l.length - 1 - k < l.length := by omega
      have f1 := row_at (R := Owner.g) hk
      have c1 := lt_at (R := Owner.g) hk
      have wj : IntKind.i64.wrap ((k : Int) + 1) = k + 1 := wrap_i64 (by omega)
      have w1 : IntKind.i64.wrap (((l.map Owner.g).length : Int) - 1) = (l.length : Int) - 1 := by rw [List.length_map]; exact wrap_i64 (by omega)
      have w2 : IntKind.i64.wrap (IntKind.i64.wrap (((l.map Owner.g).length : Int) - 1) - k) = ((l.length - 1 - k : Nat) : Int) := by rw [w1, wrap_i64 (by omega)]; omega
      have f2 := row_at (R := Owner.g) hk2
      rw [← w2] at f2
      have hstep := fun h10 hno => hI.step hk h10 hno ht.1 hu.1
      have hCk := hC _ (List.getElem_mem hk)
      have hCj := hC _ (List.getElem_mem hk2)
      generalize l[k] = o at *
      generalize l[l.length - 1 - k] = v at *
      by_cases h10 : o.calls.length ≤ 10
      · have c2 : decide (((o.calls.map Call.g).length : Int) > 10) = false := by rw [List.length_map]; simp; omega
        have k1 := ref24_Find t.T o.key (by omega)
        have hno := find_no (T := t.T) (k := o.key)
        generalize idxB (fun x : Owner => decide (x.key = o.key)) t.T = z at *
        cases hz : decide (z ≥ 0) with
        | true =>
          generalize t.T.map Owner.g = R at *
          generalize t.M.map mrow = M1 at *
          generalize t.r = r1 at *
          generalize t.T.length = m1 at *
          generalize u.M.map mrow = M2 at *
          generalize u.r = r2 at *
          generalize u.T.length = m2 at *
          refine awp_go ?_
          repeat' (conv => whnf
                   first
                   | (refine And.intro (Or.inl (by kernel_rfl)) ?_)
                   | (refine And.intro (by kernel_rfl) ?_)
                   | (refine And.intro ⟨by kernel_rfl, by kernel_rfl⟩ ?_)
                   | (refine cond_1 c1 ?_)
                   | (refine ⟨_, f1, ?_⟩)
                   | (refine cond_0 c2 ?_)
                   | (refine Or.inr ⟨_, k1, ?_⟩)
                   | (refine cond_1 hz ?_)
                   | (refine Or.inl ⟨_, law24_awake, ?_⟩)
                   | (refine ⟨_, law24_awake, ?_⟩)
                   | (refine cond_f ?_ ?_)
                   | (refine ⟨_, ⟨by decide, rfl⟩, ?_⟩)
                   | (refine cond_i (fun h => ?_) (fun h => ?_)))
          all_goals (conv => whnf)
          all_goals rfl
        | false =>
          have hI' := hstep h10 (hno hz)
          have k2 := ref24_Put t.T o (by omega)
          rw [(alike_rises ht.1 o : putR t.T o = (putTab t o).T)] at k2
          have k3 := law23_MineB o hCk
          have k4 := table_Put t o ht hCk (by omega)
          have k5 := law23_MineB v hCj
          have k6 := table_Put u v hu hCj (by omega)
          generalize putTab t o = t' at *
          generalize putTab u v = u' at *
          generalize h1 : t'.T.map Owner.g = R' at *
          generalize h2 : t'.M.map mrow = M1' at *
          generalize h3 : t'.r = r1' at *
          generalize h4 : t'.T.length = m1' at *
          generalize h5 : u'.M.map mrow = M2' at *
          generalize h6 : u'.r = r2' at *
          generalize h7 : u'.T.length = m2' at *
          generalize t.T.map Owner.g = R at *
          generalize t.M.map mrow = M1 at *
          generalize t.r = r1 at *
          generalize t.T.length = m1 at *
          generalize u.M.map mrow = M2 at *
          generalize u.r = r2 at *
          generalize u.T.length = m2 at *
          refine awp_go ?_
          repeat' (conv => whnf
                   first
                   | (refine And.intro (Or.inl (by kernel_rfl)) ?_)
                   | (refine And.intro (by kernel_rfl) ?_)
                   | (refine And.intro ⟨by kernel_rfl, by kernel_rfl⟩ ?_)
                   | (refine cond_1 c1 ?_)
                   | (refine ⟨_, f1, ?_⟩)
                   | (refine ⟨_, f2, ?_⟩)
                   | (refine cond_0 c2 ?_)
                   | (refine Or.inr ⟨_, k1, ?_⟩)
                   | (refine cond_0 hz ?_)
                   | (refine Or.inr ⟨_, k2, ?_⟩)
                   | (refine Or.inl ⟨_, k3, ?_⟩)
                   | (refine ⟨_, k3, ?_⟩)
                   | (refine Or.inl ⟨_, k5, ?_⟩)
                   | (refine ⟨_, k5, ?_⟩)
                   | (refine Or.inr ⟨_, k4, ?_⟩)
                   | (refine Or.inr ⟨_, k6, ?_⟩)
                   | (refine cond_f ?_ ?_)
                   | (refine ⟨_, ⟨by decide, rfl⟩, ?_⟩)
                   | (refine cond_i (fun h => ?_) (fun h => ?_)))
          all_goals (conv => whnf)
          subst h1; subst h2; subst h3; subst h4; subst h5; subst h6; subst h7
          exact ⟨(t', u'), _, rfl, hI', wj⟩
      · have c2 : decide (((o.calls.map Call.g).length : Int) > 10) = true := by rw [List.length_map]; simp; omega
        generalize t.T.map Owner.g = R at *
        generalize t.M.map mrow = M1 at *
        generalize t.r = r1 at *
        generalize t.T.length = m1 at *
        generalize u.M.map mrow = M2 at *
        generalize u.r = r2 at *
        generalize u.T.length = m2 at *
        refine awp_go ?_
        repeat' (conv => whnf
                 first
                 | (refine And.intro (Or.inl (by kernel_rfl)) ?_)
                 | (refine And.intro (by kernel_rfl) ?_)
                 | (refine And.intro ⟨by kernel_rfl, by kernel_rfl⟩ ?_)
                 | (refine cond_1 c1 ?_)
                 | (refine ⟨_, f1, ?_⟩)
                 | (refine cond_1 c2 ?_)
                 | (refine Or.inl ⟨_, law24_awake, ?_⟩)
                 | (refine ⟨_, law24_awake, ?_⟩)
                 | (refine cond_f ?_ ?_)
                 | (refine ⟨_, ⟨by decide, rfl⟩, ?_⟩)
                 | (refine cond_i (fun h => ?_) (fun h => ?_)))
        all_goals (conv => whnf)
        all_goals rfl
    · obtain ⟨t, u⟩ := p
      obtain ⟨ht, hu⟩ := hI.ok hC
      obtain ⟨n1, n2⟩ := hI.len
      have hta := hI.ta
      have htb := hI.tb
      have hun := hI.dk
      have h10 := hI.tn
      simp only at ht hu n1 n2 hta htb
      rw [List.take_length] at hta hun h10
      rw [List.take_of_length_le (by rw [List.length_reverse]; exact Nat.le_refl _), (putAll_rev l hun).1, ← hta] at htb
      have hlen : t.T.length = l.length := by rw [hta]; exact (putAll_rev l hun).2
      have hmem : ∀ y ∈ l, y ∈ t.T := fun y hy => by rw [hta]; exact (putAll_mem l hun y).2 hy
      clear hI hta
      have gt := fun k => table_Get t k ht (by omega)
      have gu := fun k => table_Get u k hu (by omega)
      have kt := table_Keys t (by omega)
      have ku := table_Keys u (by omega)
      have hget : ∀ y ∈ l, getT t.T y.key = some y := fun y hy => mem_getT ht.1 y (hmem y hy)
      rw [htb] at gu ku ⊢
      unfold getG at gt gu
      have s1 := ref24_Same (t.T.map Owner.key) (by rw [List.length_map]; omega)
      rw [List.map_map] at s1
      change Fv Try.prog _ [.sl (t.T.map okey), .sl (t.T.map okey)] _ at s1
      have g1 : 0 + t.T.length ≤ (t.T.map okey).length := by simp
      have g2 : ((t.T.map okey).drop 0).take t.T.length = t.T.map okey := by rw [List.drop_zero]; exact List.take_of_length_le (by simp)
      generalize t.T.map okey = X at *
      generalize t.T.map Owner.g = R at *
      generalize t.M.map mrow = M1 at *
      generalize t.r = r1 at *
      generalize u.M.map mrow = M2 at *
      generalize u.r = r2 at *
      generalize t.T.length = m1 at *
      refine awp_go ?_
      have c1 : decide ((l.length : Int) < ((l.map Owner.g).length : Int)) = false := lt_end
      repeat' (conv => whnf
               first
               | (refine And.intro (Or.inl (by kernel_rfl)) ?_)
               | (refine And.intro (by kernel_rfl) ?_)
               | (refine And.intro ⟨by kernel_rfl, by kernel_rfl⟩ ?_)
               | (refine cond_0 c1 ?_)
               | (refine cond_f ?_ ?_)
               | (refine ⟨_, ⟨by decide, rfl⟩, ?_⟩)
               | (refine cond_i (fun h => ?_) (fun h => ?_)))
      all_goals (conv => whnf)
      refine Has.each [0, 2, 3, 4, 7] [8, 10] l.length (fun _ (_ : Unit) => True) (fun _ i =>
        St.of 132 [(0, .sl (l.map Owner.g)), (2, .bool false), (3, .ptr 16 0), (4, .ptr 17 0), (7, .int .i64 i)] [(16, [.own 1 0 m1, .mp 16 3 3]), (17, [.own 2 0 m1, .mp 17 3 3]), (19, [.own 3 0 m1])] [(1, r1), (16, M1), (2, r2), (17, M2), (3, R)])
        ⟨(), _, rfl, trivial, rfl⟩ (fun k _ hk _ => ?_) (fun _ _ => ?_)
      · have f1 := row_at (R := Owner.g) hk
        have c1 := lt_at (R := Owner.g) hk
        have wj := up1 hk (show l.length < 4611686018427387904 by omega)
        have a1 := hget _ (List.getElem_mem hk)
        have a2 := h10 _ (List.getElem_mem hk)
        generalize l[k] = o at *
        have k1 := gt o.key
        have k2 := gu o.key
        rw [a1] at k1 k2
        have k3 := law23_Theirs o (by omega)
        have k4 := ref23_Same o o (by omega)
        rw [decide_eq_true rfl] at k4
        have k5 := owner_Same o o (by omega)
        rw [decide_eq_true rfl] at k5
        refine awp_go ?_
        repeat' (conv => whnf
                 first
                 | (refine And.intro (Or.inl (by kernel_rfl)) ?_)
                 | (refine And.intro (by kernel_rfl) ?_)
                 | (refine And.intro ⟨by kernel_rfl, by kernel_rfl⟩ ?_)
                 | (refine cond_1 c1 ?_)
                 | (refine ⟨_, f1, ?_⟩)
                 | (refine Or.inr ⟨_, k1, ?_⟩)
                 | (refine Or.inr ⟨_, k2, ?_⟩)
                 | (refine Or.inl ⟨_, k3, ?_⟩)
                 | (refine ⟨_, k3, ?_⟩)
                 | (refine Or.inl ⟨_, k4, ?_⟩)
                 | (refine ⟨_, k4, ?_⟩)
                 | (refine Or.inl ⟨_, k5, ?_⟩)
                 | (refine ⟨_, k5, ?_⟩)
                 | (refine cond_f ?_ ?_)
                 | (refine ⟨_, ⟨by decide, rfl⟩, ?_⟩)
                 | (refine cond_i (fun h => ?_) (fun h => ?_)))
        all_goals (conv => whnf)
        exact ⟨(), _, rfl, trivial, wj⟩
      · have c2 : ((m1 : Int) == ((l.map Owner.g).length : Int)) = true := by rw [List.length_map, hlen]; simp
        refine awp_go ?_
        repeat' (conv => whnf
                 first
                 | (refine And.intro (Or.inl (by kernel_rfl)) ?_)
                 | (refine And.intro (by kernel_rfl) ?_)
                 | (refine And.intro ⟨by kernel_rfl, by kernel_rfl⟩ ?_)
                 | (refine cond_0 lt_end ?_)
                 | (refine Or.inr ⟨_, kt, ?_⟩)
                 | (refine Or.inr ⟨_, ku, ?_⟩)
                 | (refine Or.inl ⟨_, s1, ?_⟩)
                 | (refine ⟨_, s1, ?_⟩)
                 | (refine Or.inl ⟨_, law24_awake, ?_⟩)
                 | (refine ⟨_, law24_awake, ?_⟩)
                 | (refine cond_1 c2 ?_)
                 | (refine ⟨g1, ?_⟩)
                 | (rw [g2])
                 | (refine Or.inl ?_)
                 | (refine cond_f ?_ ?_)
                 | (refine ⟨_, ⟨by decide, rfl⟩, ?_⟩)
                 | (refine cond_i (fun h => ?_) (fun h => ?_)))
        all_goals (conv => whnf)
        all_goals rfl
  · have c0 : decide (((l.map Owner.g).length : Int) > 20) = true := by rw [List.length_map]; simp; omega
    repeat' (conv => whnf
             first
             | (refine And.intro (Or.inl (by kernel_rfl)) ?_)
             | (refine And.intro (by kernel_rfl) ?_)
             | (refine And.intro ⟨by kernel_rfl, by kernel_rfl⟩ ?_)
             | (refine cond_1 c0 ?_)
             | (refine Or.inl ⟨_, law24_awake, ?_⟩)
             | (refine ⟨_, law24_awake, ?_⟩)
             | (refine cond_f ?_ ?_)
             | (refine ⟨_, ⟨by decide, rfl⟩, ?_⟩)
             | (refine cond_i (fun h => ?_) (fun h => ?_)))
    all_goals (conv => whnf)
    all_goals rfl
end Go.Proofs.Ytcihkmnolagdlaa.Cn
namespace Go.Proofs.Ytcihkmnolagdlaa.Av
open Go Go.RowKit Go.Deep Go.ChangeShapes Go.WideShapes
set_option linter.unusedVariables false

/-- Nothing is the call's own. -/
def C0 : Cx := Cx.out (fun _ => False)
structure Reads (w : World) (gs : List G) (cs : List Value) : Prop where
  len : cs.length = gs.length
  one : ∀ v ∈ cs, v.oneCell' = true
  rep : ∀ (i : Nat) g v, gs[i]? = some g → cs[i]? = some v → Rep C0 w g v
/-- Whatever is read as a value of type T reads as R x, and F holds of x. -/
def Opens {α : Type} (P : Program) (T : TypeId) (R : α → List G) (n : Nat) (F : α → Prop) : Prop :=
  P.cellsOf T = n ∧ (∀ x, (R x).length = n ∧ ∀ g ∈ R x, g.closed0 = true) ∧ ∀ (H : Type) (enc : TypeId × Value → H) (w : World) (spare : Nat → Bool) (held : Bool) (fuel : Nat) (cs : List Value) (d : DataW H) (ps : List MemPlace),
    DataW.trod enc P w 0 spare held fuel T cs = some (d, ps) → (∀ n ∈ d.weights P T, n ≤ reachBytes) → ∃ x, Reads w (R x) cs ∧ F x

theorem reads_one {w : World} {g : G} {v : Value} (hr : Rep C0 w g v) (hv : v.oneCell' = true) : Reads w [g] [v] :=
  ⟨rfl, fun u hu => by simp at hu; subst hu; exact hv, fun i g' v' hg hv' => by
    cases i with
    | zero => simp at hg hv'; subst hg; subst hv'; exact hr
    | succ i => simp at hg⟩
theorem Opens.imp {α : Type} {P : Program} {T : TypeId} {R : α → List G} {n : Nat} {F F' : α → Prop} (h : Opens P T R n F) (hi : ∀ x, F x → F' x) : Opens P T R n F' :=
  ⟨h.1, h.2.1, fun H enc w spare held fuel cs d ps ht hn => by
    obtain ⟨x, hK, hF⟩ := h.2.2 H enc w spare held fuel cs d ps ht hn
    exact ⟨x, hK, hi x hF⟩⟩
theorem opens_int {P : Program} {T : TypeId} {ik : IntKind} (hu : P.underlying T = some (.int ik)) (hc : P.cellsOf T = 1) : Opens P T (fun x : Int => [G.int ik x]) 1 (fun x => (Lit.int ik x).wf = true) :=
  ⟨hc, fun x => ⟨rfl, fun g hg => by simp at hg; subst hg; rfl⟩, fun H enc w spare held fuel cs d ps h _ => by
    obtain ⟨n, rfl, _, hw⟩ := DataW.trod_int hu h
    exact ⟨n, reads_one (.int _ _) rfl, hw⟩⟩
theorem opens_bool {P : Program} {T : TypeId} (hu : P.underlying T = some .bool) (hc : P.cellsOf T = 1) : Opens P T (fun x : Bool => [G.bool x]) 1 (fun _ => True) :=
  ⟨hc, fun x => ⟨rfl, fun g hg => by simp at hg; subst hg; rfl⟩, fun H enc w spare held fuel cs d ps h _ => by
    obtain ⟨b, rfl, _⟩ := DataW.trod_bool hu h
    exact ⟨b, reads_one (.bool _) rfl, trivial⟩⟩
theorem opens_string {P : Program} {T : TypeId} (hu : P.underlying T = some .string) (hc : P.cellsOf T = 1) : Opens P T (fun x : ByteArray => [G.str x]) 1 (fun s => s.size ≤ 140737488351232) :=
  ⟨hc, fun x => ⟨rfl, fun g hg => by simp at hg; subst hg; rfl⟩, fun H enc w spare held fuel cs d ps h hn => by
    obtain ⟨s, rfl, hx, _⟩ := DataW.trod_string hu h
    obtain ⟨rfl, rfl⟩ := Prod.mk.inj hx
    refine ⟨s, reads_one (.str _) rfl, ?_⟩
    have h1 := hn s.data.toList.length (by unfold DataW.weights; exact List.mem_singleton.2 rfl)
    have e2 : s.data.toList.length = s.size := by rw [Array.length_toList]; rfl
    rw [e2] at h1; exact h1⟩

theorem weights_mem_all {H : Type} {P : Program} {e : TypeId} : ∀ {ds : List (DataW H)} {d : DataW H}, d ∈ ds → ∀ n ∈ d.weights P e, n ∈ DataW.weightsAll P e ds
  | d0 :: ds, d, hd, n, hn => by
    simp only [DataW.weightsAll, List.mem_append]
    rcases List.mem_cons.1 hd with rfl | h
    · exact Or.inl hn
    · exact Or.inr (weights_mem_all h n hn)
theorem build_list {α : Type} (p : Nat → α → Prop) : ∀ n, (∀ i, i < n → ∃ x, p i x) → ∃ xs : List α, xs.length = n ∧ ∀ (i : Nat) (x : α), xs[i]? = some x → p i x
  | 0, _ => ⟨[], rfl, fun i x h => by simp at h⟩
  | n + 1, h => by
    obtain ⟨xs, hl, hp⟩ := build_list p n (fun i hi => h i (by omega))
    obtain ⟨x, hx⟩ := h n (by omega)
    refine ⟨xs ++ [x], by simp [hl], fun i y hy => ?_⟩
    by_cases hi : i < n
    · exact hp i y (by rwa [List.getElem?_append_left (by omega)] at hy)
    · rw [List.getElem?_append_right (by omega)] at hy
      obtain ⟨hz, hq⟩ : i - xs.length = 0 ∧ y = x := by
        cases hz : i - xs.length with
        | zero => rw [hz] at hy; simp at hy; exact ⟨rfl, hy.symm⟩
        | succ j => rw [hz] at hy; simp at hy
      have hin : i = n := by omega
      rw [hin, hq]; exact hx

theorem cell_block {w : World} {a : Addr} {v : Value} (h : w.cell? a = some v) : a.spot = none ∧ a.block < w.heap.size := by
  unfold World.cell? at h
  split at h
  · rename_i c _ _ hb
    split at h
    · cases h
    · rename_i hs
      exact ⟨by simpa using hs, (Array.getElem?_eq_some_iff.1 hb).1⟩
  · cases h

theorem opens_slice {α : Type} {P : Program} {T e : TypeId} {R : α → List G} {n : Nat} {F : α → Prop} (hu : P.underlying T = some (.slice e)) (hc : P.cellsOf T = 1) (hE : Opens P e R (n + 1) F) :
    Opens P T (fun xs : List α => [G.sl (xs.map R)]) 1 (fun xs => (∀ x ∈ xs, F x) ∧ xs.length * P.bytesOf e ≤ 140737488351232) :=
  ⟨hc, fun x => ⟨rfl, fun g hg => by simp at hg; subst hg; rfl⟩, fun H enc w spare held fuel cs d ps h hn => by
    rcases open_slice hu h with ⟨rfl, hx⟩ | ⟨a, len, cap, m, f, D, Pl, rfl, hb, hl, hm, hmm, hx, hel⟩
    · exact ⟨[], reads_one (.slnil none 0 (fun _ => rfl)) rfl, fun x hx => by simp at hx, by simp⟩
    · obtain ⟨rfl, rfl⟩ := Prod.mk.inj hx
      have hlm : len ≤ m := by rw [hmm]; split <;> omega
      have e0 : reachBytes = 140737488351232 := rfl
      have hW : ∀ i, i < len → ∀ n ∈ (D i).weights P e, n ≤ reachBytes := fun i hi n hni => hn n (by
        simp only [DataW.weights, hu, List.mem_cons, List.mem_append]
        exact Or.inr (Or.inl (weights_mem_all (List.mem_map.2 ⟨i, by simpa using hi, rfl⟩) n hni)))
      have hS : (len + (m - len)) * P.bytesOf e ≤ reachBytes := hn _ (by
        simp only [DataW.weights, hu, List.mem_cons]
        left; simp)
      obtain ⟨xs, hlen, hp⟩ := build_list (fun i x => ∃ cs', w.cells? 0 (a.add (i * (n + 1))) (n + 1) = some cs' ∧ Reads w (R x) cs' ∧ F x) len (fun i hi => by
        obtain ⟨cs', h1, h2⟩ := hel i (by omega)
        obtain ⟨x, hK, hF⟩ := hE.2.2 H enc w spare held f cs' _ _ h2 (hW i hi)
        exact ⟨x, cs', by rw [← hE.1]; exact h1, hK, hF⟩)
      subst hlen
      refine ⟨xs, reads_one ?_ rfl, fun x hx => ?_, ?_⟩
      · by_cases h0 : xs = []
        · subst h0; exact .slnil (some a) cap (fun e => by cases e)
        obtain ⟨x0, ys, rfl⟩ := List.exists_cons_of_ne_nil h0
        obtain ⟨hs, hlt⟩ : a.spot = none ∧ a.block < w.heap.size := by
          obtain ⟨cs', h1, hK, _⟩ := hp 0 x0 rfl
          obtain ⟨_, hl', hcc⟩ := World.cells?_some h1
          have := hcc 0 (by omega)
          rw [List.getElem?_eq_getElem (by omega)] at this
          have e1 : (a.add (0 * (n + 1))).add 0 = a := by simp [Addr.add]
          rw [e1] at this
          exact cell_block this
        generalize hxs : x0 :: ys = xs at *
        have hlm' : (xs.map R).length = xs.length := by simp
        rw [← hlm']
        refine .sl (xs.map R) a cap (n + 1) (fun i j => (w.cell? ⟨a.block, a.off + i * (n + 1) + j, none⟩).getD undef) hs hlt (fun h => h) (by rw [hlm']; omega) (fun r hr => ?_) (fun r hr g hg => ?_) (fun i r j g h1 h2 => ?_) (fun i r j g h1 h2 => ?_)
        · obtain ⟨x, _, rfl⟩ := List.mem_map.1 hr; exact (hE.2.1 x).1
        · obtain ⟨x, _, rfl⟩ := List.mem_map.1 hr; exact (hE.2.1 x).2 g hg
        all_goals
          rw [List.getElem?_map] at h1
          obtain ⟨x, hx, rfl⟩ := Option.map_eq_some_iff.1 h1
          obtain ⟨cs', q1, hK, _⟩ := hp i x hx
          obtain ⟨_, hl', hcc⟩ := World.cells?_some q1
          have hj : j < n + 1 := by rw [← (hE.2.1 x).1]; exact (List.getElem?_eq_some_iff.1 h2).1
          have hq := hcc j hj
          have ea : (a.add (i * (n + 1))).add j = ⟨a.block, a.off + i * (n + 1) + j, none⟩ := by
            rw [Deep.add_add]
            unfold Addr.add
            obtain ⟨ab, ao, asp⟩ := a
            simp only at hs; subst hs
            split
            · rename_i hz; simp [show i * (n + 1) = 0 by omega, show j = 0 by omega]
            · simp [Nat.add_assoc]
          rw [ea, List.getElem?_eq_getElem (by omega)] at hq
          rw [hq]
        · rfl
        · exact hK.rep j g _ h2 (List.getElem?_eq_getElem (by omega))
      · obtain ⟨i, hi⟩ := List.mem_iff_getElem?.1 hx
        obtain ⟨_, _, _, hF⟩ := hp i x hi
        exact hF
      · have : xs.length * P.bytesOf e ≤ (xs.length + (m - xs.length)) * P.bytesOf e := Nat.mul_le_mul_right _ (by omega)
        omega⟩

def OpensFs {α : Type} (P : Program) (fs : List Field) (off : Nat) (R : α → List G) (n : Nat) (F : α → Prop) : Prop :=
  (∀ x, (R x).length = n ∧ ∀ g ∈ R x, g.closed0 = true) ∧ ∀ (H : Type) (enc : TypeId × Value → H) (w : World) (spare : Nat → Bool) (held : Bool) (m : Nat) (cs : List Value) (xs : List (DataW H × List MemPlace)), cs.length = off + n → xs.length = fs.length →
    (∀ (i : Nat) (f : Field), fs[i]? = some f → DataW.trod enc P w 0 spare held m f.type ((cs.drop f.offset).take (P.cellsOf f.type)) = xs[i]?) →
    (∀ n ∈ DataW.weightsEach P (fs.map (·.type)) (xs.map (·.1)), n ≤ reachBytes) → ∃ x, Reads w (R x) (cs.drop off) ∧ F x
theorem fs_one {α : Type} {P : Program} {f : Field} {off : Nat} {R : α → List G} {n : Nat} {F : α → Prop} (ho : f.offset = off) (hO : Opens P f.type R n F) : OpensFs P [f] off R n F :=
  ⟨hO.2.1, fun H enc w spare held m cs xs hc hx hr hn => by
    subst ho
    match xs, hx with
    | [y], _ =>
      have h0 := hr 0 f rfl
      rw [hO.1, List.take_of_length_le (by rw [List.length_drop]; omega)] at h0
      exact hO.2.2 H enc w spare held m _ y.1 y.2 h0 (fun m hm => hn m (by simpa [DataW.weightsEach] using hm))⟩
theorem Reads.append {w : World} {gs hs : List G} {cs ds : List Value} (h : Reads w gs cs) (h' : Reads w hs ds) : Reads w (gs ++ hs) (cs ++ ds) :=
  ⟨by simp [h.len, h'.len], fun v hv => (List.mem_append.1 hv).elim (h.one v) (h'.one v), fun i g v hg hv => by
    by_cases hi : i < gs.length
    · rw [List.getElem?_append_left hi] at hg
      rw [List.getElem?_append_left (by rw [h.len]; exact hi)] at hv
      exact h.rep i g v hg hv
    · rw [List.getElem?_append_right (by omega)] at hg
      rw [List.getElem?_append_right (by rw [h.len]; omega), h.len] at hv
      exact h'.rep _ g v hg hv⟩
theorem fs_cons {α β : Type} {P : Program} {f : Field} {fs : List Field} {off off' : Nat} {R : α → List G} {R' : β → List G} {n n' : Nat} {F : α → Prop} {F' : β → Prop} (ho : f.offset = off) (ho' : off + n = off') (hO : Opens P f.type R n F) (hR : OpensFs P fs off' R' n' F') :
    OpensFs P (f :: fs) off (fun x : α × β => R x.1 ++ R' x.2) (n + n') (fun x => F x.1 ∧ F' x.2) :=
  ⟨fun x => ⟨by rw [List.length_append, (hO.2.1 x.1).1, (hR.1 x.2).1], fun g hg => (List.mem_append.1 hg).elim ((hO.2.1 x.1).2 g) ((hR.1 x.2).2 g)⟩, fun H enc w spare held m cs xs hc hx hr hn => by
    subst ho; subst ho'
    match xs, hx with
    | y :: ys, hx =>
      have h0 := hr 0 f rfl
      rw [hO.1] at h0
      obtain ⟨a, hK, hF⟩ := hO.2.2 H enc w spare held m _ y.1 y.2 h0 (fun m hm => hn m (by simp only [List.map_cons, DataW.weightsEach, List.mem_append]; exact Or.inl hm))
      obtain ⟨b, hK', hF'⟩ := hR.2 H enc w spare held m cs ys (by omega) (by simpa using hx) (fun i g hg => by simpa using hr (i + 1) g (by simpa using hg)) (fun m hm => hn m (by simp only [List.map_cons, DataW.weightsEach, List.mem_append]; exact Or.inr hm))
      refine ⟨(a, b), ?_, hF, hF'⟩
      have := hK.append hK'
      rwa [← List.drop_drop, List.take_append_drop] at this⟩
theorem opens_struct {α : Type} {P : Program} {T : TypeId} {fs : Array Field} {R : α → List G} {n : Nat} {F : α → Prop} (hu : P.underlying T = some (.struct fs)) (hc : P.cellsOf T = n) (hf : OpensFs P fs.toList 0 R n F) : Opens P T R n F :=
  ⟨hc, hf.1, fun H enc w spare held fuel cs d ps h hn => by
    obtain ⟨xs, m, _, hx, hl, hxl, hr⟩ := DataW.trod_struct hu h
    obtain ⟨rfl, rfl⟩ := Prod.mk.inj hx
    have := hf.2 H enc w spare held m cs xs (by omega) (by simpa using hxl) (fun i f hi => hr i f (by simpa using hi)) (fun m hm => hn m (by simp only [DataW.weights, hu]; exact hm))
    simpa using this⟩
/-- The same, in a type of one's own. -/
theorem opens_iso {α β : Type} {P : Program} {T : TypeId} {R : α → List G} {n : Nat} {F : α → Prop} (f : β → α) (g : α → β) (hfg : ∀ a, f (g a) = a) (hO : Opens P T R n F) {R' : β → List G} (hR : ∀ b, R' b = R (f b)) : Opens P T R' n (fun b => F (f b)) :=
  ⟨hO.1, fun x => by rw [hR]; exact hO.2.1 (f x), fun H enc w spare held fuel cs d ps h hn => by
    obtain ⟨x, hK, hF⟩ := hO.2.2 H enc w spare held fuel cs d ps h hn
    exact ⟨g x, by rw [hR, hfg]; exact hK, by show F (f (g x)); rw [hfg]; exact hF⟩⟩

/-- A value's cells as a value: a struct's, or another one's. -/
theorem param_struct {α H : Type} {P : Program} {T : TypeId} {fs : Array Field} {R : α → List G} {n : Nat} {F : α → Prop} {enc : TypeId × Value → H} {w : World} {r : Reach} {b : Nat} {spare : Nat → Bool} {held : Bool} {v : Value} {d : DataW H} {p : List MemPlace}
    (hu : P.underlying T = some (.struct fs)) (hO : Opens P T R n F) (hv : Value.okWide P w r b T v) (h : DataW.Trod enc P w 0 spare held T v d p) (hn : ∀ n ∈ d.weights P T, n ≤ reachBytes) :
    ∃ x, Rep C0 w (.agg (R x)) v ∧ F x := by
  obtain ⟨cs, rfl, _⟩ := okWide_struct hu hv
  obtain ⟨fuel, hf⟩ := h
  obtain ⟨x, hK, hF⟩ := hO.2.2 H enc w spare held fuel _ d p hf hn
  refine ⟨x, ?_, hF⟩
  have e : (Value.agg cs).cells.toList = cs.toList := rfl
  rw [e] at hK
  exact .agg _ cs.toList hK.len (fun g hg => closed0_cell ((hO.2.1 x).2 g hg)) hK.one hK.rep
theorem param_one {α H : Type} {P : Program} {T : TypeId} {R : α → List G} {g : α → G} {F : α → Prop} {enc : TypeId × Value → H} {w : World} {spare : Nat → Bool} {held : Bool} {v : Value} {d : DataW H} {p : List MemPlace}
    (hO : Opens P T R 1 F) (hR : ∀ x, R x = [g x]) (hc : v.cells = #[v]) (h : DataW.Trod enc P w 0 spare held T v d p) (hn : ∀ n ∈ d.weights P T, n ≤ reachBytes) :
    ∃ x, Rep C0 w (g x) v ∧ F x := by
  obtain ⟨fuel, hf⟩ := h
  rw [hc] at hf
  obtain ⟨x, hK, hF⟩ := hO.2.2 H enc w spare held fuel _ d p hf hn
  exact ⟨x, hK.rep 0 _ _ (by rw [hR]; rfl) rfl, hF⟩
theorem param_slice {α H : Type} {P : Program} {T e : TypeId} {R : α → List G} {g : α → G} {F : α → Prop} {enc : TypeId × Value → H} {w : World} {r : Reach} {b : Nat} {spare : Nat → Bool} {held : Bool} {v : Value} {d : DataW H} {p : List MemPlace}
    (hu : P.underlying T = some (.slice e)) (hO : Opens P T R 1 F) (hR : ∀ x, R x = [g x]) (hv : Value.okWide P w r b T v) (h : DataW.Trod enc P w 0 spare held T v d p) (hn : ∀ n ∈ d.weights P T, n ≤ reachBytes) :
    ∃ x, Rep C0 w (g x) v ∧ F x := by
  obtain ⟨a, len, cap, rfl⟩ := okWide_slice hu hv
  exact param_one hO hR rfl h hn
theorem param_int {α H : Type} {P : Program} {T : TypeId} {ik : IntKind} {R : α → List G} {g : α → G} {F : α → Prop} {enc : TypeId × Value → H} {w : World} {r : Reach} {b : Nat} {spare : Nat → Bool} {held : Bool} {v : Value} {d : DataW H} {p : List MemPlace}
    (hu : P.underlying T = some (.int ik)) (hO : Opens P T R 1 F) (hR : ∀ x, R x = [g x]) (hv : Value.okWide P w r b T v) (h : DataW.Trod enc P w 0 spare held T v d p) (hn : ∀ n ∈ d.weights P T, n ≤ reachBytes) :
    ∃ x, Rep C0 w (g x) v ∧ F x := by
  obtain ⟨m, rfl⟩ := okWide_int hu hv
  exact param_one hO hR rfl h hn
theorem param_bool {α H : Type} {P : Program} {T : TypeId} {R : α → List G} {g : α → G} {F : α → Prop} {enc : TypeId × Value → H} {w : World} {r : Reach} {b : Nat} {spare : Nat → Bool} {held : Bool} {v : Value} {d : DataW H} {p : List MemPlace}
    (hu : P.underlying T = some .bool) (hO : Opens P T R 1 F) (hR : ∀ x, R x = [g x]) (hv : Value.okWide P w r b T v) (h : DataW.Trod enc P w 0 spare held T v d p) (hn : ∀ n ∈ d.weights P T, n ≤ reachBytes) :
    ∃ x, Rep C0 w (g x) v ∧ F x := by
  obtain ⟨m, rfl⟩ := okWide_bool hu hv
  exact param_one hO hR rfl h hn
theorem param_string {α H : Type} {P : Program} {T : TypeId} {R : α → List G} {g : α → G} {F : α → Prop} {enc : TypeId × Value → H} {w : World} {r : Reach} {b : Nat} {spare : Nat → Bool} {held : Bool} {v : Value} {d : DataW H} {p : List MemPlace}
    (hu : P.underlying T = some .string) (hO : Opens P T R 1 F) (hR : ∀ x, R x = [g x]) (hv : Value.okWide P w r b T v) (h : DataW.Trod enc P w 0 spare held T v d p) (hn : ∀ n ∈ d.weights P T, n ≤ reachBytes) :
    ∃ x, Rep C0 w (g x) v ∧ F x := by
  obtain ⟨m, rfl⟩ := okWide_string hu hv
  exact param_one hO hR rfl h hn
/-- A parameter's weights, out of all. -/
theorem param_weights {H : Type} {P : Program} {ts : List TypeId} {ds : List (DataW H)} (h : (DataW.weightsEach P ts ds).all (· ≤ reachBytes) = true) {j : Nat} {t : TypeId} {d : DataW H} (ht : ts[j]? = some t) (hd : ds[j]? = some d) : ∀ n ∈ d.weights P t, n ≤ reachBytes :=
  fun n hn => by simpa using List.all_eq_true.1 h n (DataW.weights_mem_each ht hd n hn)

/-- A call of a law, by what its arguments read as. -/
theorem Fv.calls {P : Program} {f : FuncId} {gs : List G} {b : Bool} (h : Fv P f gs (.bool b)) {w : World} (hfx : Fixed w C0.ex) {vs : List Value} (hl : vs.length = gs.length) (hr : ∀ (i : Nat) g v, gs[i]? = some g → vs[i]? = some v → Rep C0 w g v) :
    Calls P f ⟨vs⟩ w fun e w' => e = .returned (.bool b) ∧ Below w.heap.size w w' := by
  refine (h.2 C0 w (fun _ => False) vs hl hr (mem0 w _ (fun B h => h.elim)) (fun B h => h.elim) (fun b B h => by cases h) (fun k B s sz n h => by cases h) hfx).mono fun e w' ⟨v, C', g, bs, rs, he, hR, hv, hM, hE⟩ => ?_
  obtain ⟨rfl, _, _⟩ := hR
  cases hv
  exact ⟨he, ⟨hE.fr.os, hE.fr.tape, hE.fr.output, hE.fr.size, fun B hB => hE.fr.block B hB (fun h => h)⟩⟩
end Go.Proofs.Ytcihkmnolagdlaa.Av
