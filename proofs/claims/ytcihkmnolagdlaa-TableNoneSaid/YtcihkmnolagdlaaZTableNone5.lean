/- One text out of several: Cn120, Cn121, Av19, Cn1, Cn2, Cn8, Cn122, Cn10, Cn11, Cn12, Cn13, Cn14, Cn119, Cn123, Cn124, Cn125, Cn126, Cn131, Cn136, Av15. No condition but theirs. -/
import Derived.Test.YtcihkmnolagdlaaProg
import Derived.KernelRfl
import Derived.Deep.Slices
import Derived.SizedLaws
import Derived.ChangeOld
import Derived.WideShapes
import Derived.ChangeShapes
import Derived.Test.YtcihkmnolagdlaaZTableNone4
namespace Go.Proofs.Ytcihkmnolagdlaa.Cn
open Go Go.Proofs Go.Proofs.Ytcihkmnolagdlaa.Av Go.Proofs.Ytcihkmnolagdlaa.Sp
set_option linter.unusedVariables false
set_option linter.unusedSimpArgs false
set_option linter.unusedSectionVars false
set_option maxRecDepth 100000
attribute [local irreducible] Fv Fp

theorem cmp_isNaN (a : Int) : Fv Try.prog 54 [.int .i64 a] (.bool false) := by
  refine Fv.of_awp Try.func54 rfl (by kernel_rfl) rfl (Nat.le_of_ble_eq_true rfl) ?_
  repeat' (conv => whnf
           first
           | (refine And.intro (Or.inl (by kernel_rfl)) ?_)
           | (refine And.intro (by kernel_rfl) ?_)
           | (refine And.intro ⟨by kernel_rfl, by kernel_rfl⟩ ?_)
           | (refine cond_f ?_ ?_)
           | (refine ⟨_, ⟨by decide, rfl⟩, ?_⟩)
           | (refine cond_i (fun h => ?_) (fun h => ?_)))
  all_goals (conv => whnf)
  all_goals (refine bool_eq ?_; simp)
theorem cmp_Compare (a b : Int) : Fv Try.prog 52 [.int .i64 a, .int .i64 b] (.int .i64 (cI a b)) := by
  refine Fv.of_awp Try.func52 rfl (by kernel_rfl) rfl (Nat.le_of_ble_eq_true rfl) ?_
  repeat' (conv => whnf
           first
           | (refine And.intro (Or.inl (by kernel_rfl)) ?_)
           | (refine And.intro (by kernel_rfl) ?_)
           | (refine And.intro ⟨by kernel_rfl, by kernel_rfl⟩ ?_)
           | (refine Or.inl ⟨_, cmp_isNaN a, ?_⟩)
           | (refine ⟨_, cmp_isNaN a, ?_⟩)
           | (refine Or.inl ⟨_, cmp_isNaN b, ?_⟩)
           | (refine ⟨_, cmp_isNaN b, ?_⟩)
           | (refine cond_f ?_ ?_)
           | (refine ⟨_, ⟨by decide, rfl⟩, ?_⟩)
           | (refine cond_i (fun h => ?_) (fun h => ?_)))
  all_goals (conv => whnf)
  all_goals
    refine int_eq ?_
    simp only [decide_eq_true_eq, decide_eq_false_iff_not] at *
    unfold cI
    (repeat' split) <;> omega
def or3 : List Int → Int
  | [] => 0
  | a :: l => orI a (or3 l)
theorem or3_take : ∀ (l : List Int) (k : Nat) (hk : k < l.length), or3 (l.take k) = 0 → (∀ x ∈ l.take k, x = 0) → or3 l = orI l[k] (or3 (l.drop (k + 1)))
  | a :: l, 0, hk, h, h2 => rfl
  | a :: l, k + 1, hk, h, h2 => by
    have ha : a = 0 := h2 a (by simp)
    subst ha
    show orI 0 (or3 l) = _
    rw [or3_take l k (by simpa using hk) (by simpa [or3, orI] using h) (fun x hx => h2 x (by simp [hx]))]
    rfl
theorem or3_zero : ∀ (l : List Int), (∀ x ∈ l, x = 0) → or3 l = 0
  | [], _ => rfl
  | a :: l, h => by
    have ha : a = 0 := h a (by simp)
    subst ha
    exact or3_zero l (fun x hx => h x (by simp [hx]))
theorem cmp_Or (l : List Int) (hs : l.length < 4611686018427387904) : Fv Try.prog 50 [.sl (l.map fun x => [.int .i64 x])] (.int .i64 (or3 l)) := by
  refine Fv.of_awp Try.func50 rfl (by kernel_rfl) rfl (Nat.le_of_ble_eq_true rfl) ?_
  repeat' (conv => whnf
           first
           | (refine And.intro (Or.inl (by kernel_rfl)) ?_)
           | (refine And.intro (by kernel_rfl) ?_)
           | (refine And.intro ⟨by kernel_rfl, by kernel_rfl⟩ ?_)
           | (refine cond_f ?_ ?_)
           | (refine ⟨_, ⟨by decide, rfl⟩, ?_⟩)
           | (refine cond_i (fun h => ?_) (fun h => ?_)))
  all_goals (conv => whnf)
  refine Has.each [2, 3, 6, 7, 8] [5] l.length (fun k (_ : Unit) => ∀ x ∈ l.take k, x = 0) (fun _ i =>
    St.of 18 [(2, .int .i64 0), (3, .int .i64 0), (6, .sl (l.map fun x => [.int .i64 x])), (7, .int .i64 (l.map fun x => [G.int .i64 x]).length), (8, .int .i64 i)] [] []) ⟨(), _, rfl, by simp, rfl⟩ (fun k _ hk hI => ?_) (fun _ hI => ?_)
  · have hz := or3_take l k hk (or3_zero _ hI) hI
    refine awp_go ?_
    repeat' (conv => whnf
             first
             | (refine And.intro (Or.inl (by kernel_rfl)) ?_)
             | (refine And.intro (by kernel_rfl) ?_)
             | (refine And.intro ⟨by kernel_rfl, by kernel_rfl⟩ ?_)
             | (refine cond_1 (lt_at hk) ?_)
             | (refine ⟨_, row_at hk, ?_⟩)
             | (refine cond_f ?_ ?_)
             | (refine ⟨_, ⟨by decide, rfl⟩, ?_⟩)
             | (refine cond_i (fun h => ?_) (fun h => ?_)))
    all_goals (conv => whnf)
    · simp only [bne_iff_ne, ne_eq] at h
      refine int_eq ?_
      rw [hz, orI, if_neg h]
    · simp only [bne_eq_false_iff_eq] at h
      refine ⟨(), _, rfl, fun x hx => ?_, up1 hk hs⟩
      rw [List.take_succ_eq_append_getElem hk, List.mem_append] at hx
      rcases hx with hx | hx
      · exact hI x hx
      · simp at hx; rw [hx]; exact h
  · rw [List.take_length] at hI
    refine awp_go ?_
    repeat' (conv => whnf
             first
             | (refine And.intro (Or.inl (by kernel_rfl)) ?_)
             | (refine And.intro (by kernel_rfl) ?_)
             | (refine And.intro ⟨by kernel_rfl, by kernel_rfl⟩ ?_)
             | (refine cond_0 lt_end ?_)
             | (refine cond_f ?_ ?_)
             | (refine ⟨_, ⟨by decide, rfl⟩, ?_⟩)
             | (refine cond_i (fun h => ?_) (fun h => ?_)))
    all_goals (conv => whnf)
    all_goals
      refine int_eq ?_
      rw [or3_zero l hI]
theorem ident_Compare (a b : Sp.Id) : Fv Try.prog 51 [.agg a.g, .agg b.g] (.int .i64 (cId a b)) := by
  refine Fv.of_awp Try.func51 rfl (by kernel_rfl) rfl (Nat.le_of_ble_eq_true rfl) ?_
  have h := cmp_Or [cI a.node b.node, cI a.inc b.inc, cI a.seq b.seq] (by simp)
  repeat' (conv => whnf
           first
           | (refine And.intro (Or.inl (by kernel_rfl)) ?_)
           | (refine And.intro (by kernel_rfl) ?_)
           | (refine And.intro ⟨by kernel_rfl, by kernel_rfl⟩ ?_)
           | (refine Or.inl ⟨_, cmp_Compare a.node b.node, ?_⟩)
           | (refine ⟨_, cmp_Compare a.node b.node, ?_⟩)
           | (refine Or.inl ⟨_, cmp_Compare a.inc b.inc, ?_⟩)
           | (refine ⟨_, cmp_Compare a.inc b.inc, ?_⟩)
           | (refine Or.inl ⟨_, cmp_Compare a.seq b.seq, ?_⟩)
           | (refine ⟨_, cmp_Compare a.seq b.seq, ?_⟩)
           | (refine Or.inl ⟨_, h, ?_⟩)
           | (refine ⟨_, h, ?_⟩)
           | (refine cond_f ?_ ?_)
           | (refine ⟨_, ⟨by decide, rfl⟩, ?_⟩)
           | (refine cond_i (fun h => ?_) (fun h => ?_)))
  all_goals (conv => whnf)
  all_goals
    refine int_eq ?_
    unfold cId or3 or3 or3 or3
    congr 2
    unfold orI; split <;> simp_all
theorem ident_Keys (a b : Sp.Key) : Fv Try.prog 46 [.agg a.g, .agg b.g] (.int .i64 (cKey a b)) := by
  refine Fv.of_awp Try.func46 rfl (by kernel_rfl) rfl (Nat.le_of_ble_eq_true rfl) ?_
  have h := cmp_Or [cId a.id b.id, cI a.att b.att] (by simp)
  repeat' (conv => whnf
           first
           | (refine And.intro (Or.inl (by kernel_rfl)) ?_)
           | (refine And.intro (by kernel_rfl) ?_)
           | (refine And.intro ⟨by kernel_rfl, by kernel_rfl⟩ ?_)
           | (refine Or.inl ⟨_, ident_Compare a.id b.id, ?_⟩)
           | (refine ⟨_, ident_Compare a.id b.id, ?_⟩)
           | (refine Or.inl ⟨_, cmp_Compare a.att b.att, ?_⟩)
           | (refine ⟨_, cmp_Compare a.att b.att, ?_⟩)
           | (refine Or.inl ⟨_, h, ?_⟩)
           | (refine ⟨_, h, ?_⟩)
           | (refine cond_f ?_ ?_)
           | (refine ⟨_, ⟨by decide, rfl⟩, ?_⟩)
           | (refine cond_i (fun h => ?_) (fun h => ?_)))
  all_goals (conv => whnf)
  all_goals
    refine int_eq ?_
    unfold cKey or3 or3 or3
    congr 1
    unfold orI; split <;> simp_all
theorem ref07_ints (a b : Int) : Fv Try.prog 42 [.int .i64 a, .int .i64 b] (.int .i64 (cI a b)) := by
  refine Fv.of_awp Try.func42 rfl (by kernel_rfl) rfl (Nat.le_of_ble_eq_true rfl) ?_
  repeat' (conv => whnf
           first
           | (refine And.intro (Or.inl (by kernel_rfl)) ?_)
           | (refine And.intro (by kernel_rfl) ?_)
           | (refine And.intro ⟨by kernel_rfl, by kernel_rfl⟩ ?_)
           | (refine cond_f ?_ ?_)
           | (refine ⟨_, ⟨by decide, rfl⟩, ?_⟩)
           | (refine cond_i (fun h => ?_) (fun h => ?_)))
  all_goals (conv => whnf)
  all_goals
    refine int_eq ?_
    simp only [decide_eq_true_eq, decide_eq_false_iff_not] at *
    unfold cI
    (repeat' split) <;> omega
theorem ref07_Compare (a b : Sp.Id) : Fv Try.prog 41 [.agg a.g, .agg b.g] (.int .i64 (cId a b)) := by
  refine Fv.of_awp Try.func41 rfl (by kernel_rfl) rfl (Nat.le_of_ble_eq_true rfl) ?_
  have e1 := cI_cases a.node b.node
  have e2 := cI_cases a.inc b.inc
  repeat' (conv => whnf
           first
           | (refine And.intro (Or.inl (by kernel_rfl)) ?_)
           | (refine And.intro (by kernel_rfl) ?_)
           | (refine And.intro ⟨by kernel_rfl, by kernel_rfl⟩ ?_)
           | (refine Or.inl ⟨_, ref07_ints a.node b.node, ?_⟩)
           | (refine ⟨_, ref07_ints a.node b.node, ?_⟩)
           | (refine Or.inl ⟨_, ref07_ints a.inc b.inc, ?_⟩)
           | (refine ⟨_, ref07_ints a.inc b.inc, ?_⟩)
           | (refine Or.inl ⟨_, ref07_ints a.seq b.seq, ?_⟩)
           | (refine ⟨_, ref07_ints a.seq b.seq, ?_⟩)
           | (refine cond_f ?_ ?_)
           | (refine ⟨_, ⟨by decide, rfl⟩, ?_⟩)
           | (refine cond_i (fun h => ?_) (fun h => ?_)))
  all_goals (conv => whnf)
  all_goals
    refine int_eq ?_
    simp only [bne_iff_ne, bne_eq_false_iff_eq, ne_eq] at *
    unfold cId orI
    (repeat' split) <;> omega
theorem ref07_Keys (a b : Sp.Key) : Fv Try.prog 26 [.agg a.g, .agg b.g] (.int .i64 (cKey a b)) := by
  refine Fv.of_awp Try.func26 rfl (by kernel_rfl) rfl (Nat.le_of_ble_eq_true rfl) ?_
  have e1 := cId_cases a.id b.id
  repeat' (conv => whnf
           first
           | (refine And.intro (Or.inl (by kernel_rfl)) ?_)
           | (refine And.intro (by kernel_rfl) ?_)
           | (refine And.intro ⟨by kernel_rfl, by kernel_rfl⟩ ?_)
           | (refine Or.inl ⟨_, ref07_Compare a.id b.id, ?_⟩)
           | (refine ⟨_, ref07_Compare a.id b.id, ?_⟩)
           | (refine Or.inl ⟨_, ref07_ints a.att b.att, ?_⟩)
           | (refine ⟨_, ref07_ints a.att b.att, ?_⟩)
           | (refine cond_f ?_ ?_)
           | (refine ⟨_, ⟨by decide, rfl⟩, ?_⟩)
           | (refine cond_i (fun h => ?_) (fun h => ?_)))
  all_goals (conv => whnf)
  all_goals
    refine int_eq ?_
    simp only [id_eqB, Bool.not_eq_true', Bool.not_eq_false', decide_eq_true_eq, decide_eq_false_iff_not] at h
    unfold cKey orI
  · rw [if_neg]
    intro e
    rcases e1 with e1 | e1 | e1
    · omega
    · exact h e1.2
    · omega
  · rw [if_pos]
    rw [h]; unfold cId cI; simp [orI]
end Go.Proofs.Ytcihkmnolagdlaa.Cn
namespace Go.Proofs.Ytcihkmnolagdlaa.Cn
open Go Go.Proofs Go.Proofs.Ytcihkmnolagdlaa.Av Go.Proofs.Ytcihkmnolagdlaa.Sp
set_option linter.unusedVariables false
set_option linter.unusedSimpArgs false
set_option linter.unusedSectionVars false
set_option maxRecDepth 100000
attribute [local irreducible] Fv Fp

theorem table_at1 (o : Owner) (k : Sp.Key) : Fv Try.prog 45 [.agg o.g, .agg k.g] (.int .i64 (cKey o.key k)) := by
  refine Fv.of_awp Try.func45 rfl (by kernel_rfl) rfl (Nat.le_of_ble_eq_true rfl) ?_
  repeat' (conv => whnf
           first
           | (refine And.intro (Or.inl (by kernel_rfl)) ?_)
           | (refine And.intro (by kernel_rfl) ?_)
           | (refine And.intro ⟨by kernel_rfl, by kernel_rfl⟩ ?_)
           | (refine Or.inl ⟨_, ident_Keys o.key k, ?_⟩)
           | (refine ⟨_, ident_Keys o.key k, ?_⟩)
           | (refine cond_f ?_ ?_)
           | (refine ⟨_, ⟨by decide, rfl⟩, ?_⟩)
           | (refine cond_i (fun h => ?_) (fun h => ?_)))
  all_goals (conv => whnf)
  all_goals rfl
theorem half {i j : Nat} (h : i < j) (hj : j < 4611686018427387904) : IntKind.i64.wrap ((IntKind.u64.wrap (IntKind.i64.wrap ((i : Int) + j))).fdiv (2 ^ (min (1 : Int).toNat IntKind.u64.bits))) = (((i + j) / 2 : Nat) : Int) := by
  rw [wrap_i64 (n := (i : Int) + j) (by omega)]
  have e1 : IntKind.u64.wrap ((i : Int) + j) = (i : Int) + j := by
    unfold IntKind.wrap; simp [IntKind.signed, IntKind.bits]; omega
  have e2 : (2 ^ (min (1 : Int).toNat IntKind.u64.bits) : Int) = 2 := by decide
  rw [e1, e2, Int.fdiv_eq_ediv_of_nonneg _ (by omega), wrap_i64 (by omega)]
  omega
set_option maxHeartbeats 4000000 in
theorem table_search (T : List Owner) (k : Sp.Key) (hT : rises T) (hs : T.length ≤ 40) : Fv Try.prog 44 [.sl (T.map Owner.g), .agg k.g, .fn 45 []] (.tup [.int .i64 (posT T k), .bool (hasT T k)]) := by
  refine Fv.of_awp Try.func44 rfl (by kernel_rfl) rfl (Nat.le_of_ble_eq_true rfl) ?_
  repeat' (conv => whnf
           first
           | (refine And.intro (Or.inl (by kernel_rfl)) ?_)
           | (refine And.intro (by kernel_rfl) ?_)
           | (refine And.intro ⟨by kernel_rfl, by kernel_rfl⟩ ?_)
           | (refine cond_f ?_ ?_)
           | (refine ⟨_, ⟨by decide, rfl⟩, ?_⟩)
           | (refine cond_i (fun h => ?_) (fun h => ?_)))
  all_goals (conv => whnf)
  have hp := posT_le T k
  refine Has.loopD [0, 2, 4, 6, 7, 8, 9, 10] [11] (fun m st => ∃ (i j : Nat) (x y : Int), x = i ∧ y = j ∧ m = j - i ∧ i ≤ posT T k ∧ posT T k ≤ j ∧ j ≤ T.length ∧ st = St.of 49 [(0, .sl (T.map Owner.g)), (2, .fn 45 []), (4, .ptr 4 0), (6, .int .i64 0), (7, .bool false), (8, .int .i64 (T.map Owner.g).length), (9, .int .i64 x), (10, .int .i64 y)] [(4, k.g)] [])
    T.length ⟨0, T.length, 0, (T.map Owner.g).length, rfl, by simp, by omega, by omega, hp, by omega, rfl⟩ fun m st hJ => ?_
  obtain ⟨i, j, x, y, hx, hy, rfl, hi, hj, hn, rfl⟩ := hJ
  by_cases hlt : i < j
  · have c1 : decide (x < y) = true := by simp; omega
    have hh := half hlt (by omega)
    rw [← hx, ← hy] at hh
    have hk : (i + j) / 2 < T.length := by omega
    have h1 := row_at (R := Owner.g) hk
    rw [← hh] at h1
    have h2 := posT_lt hT hk (k := k)
    have h3 := table_at1 T[(i + j) / 2] k
    have h4 := cKey_sign T[(i + j) / 2].key k
    generalize cKey T[(i + j) / 2].key k = c at *
    refine awp_go ?_
    repeat' (conv => whnf
             first
             | (refine And.intro (Or.inl (by kernel_rfl)) ?_)
             | (refine And.intro (by kernel_rfl) ?_)
             | (refine And.intro ⟨by kernel_rfl, by kernel_rfl⟩ ?_)
             | (refine cond_1 c1 ?_)
             | (refine ⟨_, h1, ?_⟩)
             | (refine Or.inl ⟨_, h3, ?_⟩)
             | (refine ⟨_, h3, ?_⟩)
             | (refine cond_f ?_ ?_)
             | (refine ⟨_, ⟨by decide, rfl⟩, ?_⟩)
             | (refine cond_i (fun h => ?_) (fun h => ?_)))
    all_goals (conv => whnf)
    · simp only [decide_eq_true_eq] at h
      have h5 := h2.1 (by omega)
      refine ⟨_, ?_, (i + j) / 2 + 1, j, _, y, ?_, hy, rfl, ?_, hj, hn, rfl⟩
      · omega
      · rw [hh, wrap_i64 (by omega)]; omega
      · omega
    · simp only [decide_eq_false_iff_not] at h
      have h5 : ¬ ((i + j) / 2 < posT T k) := fun h6 => by have := h2.2 h6; omega
      refine ⟨_, ?_, i, (i + j) / 2, x, _, hx, hh, rfl, hi, ?_, ?_, rfl⟩
      · omega
      · omega
      · omega
  · have c1 : decide (x < y) = false := by simp; omega
    obtain rfl : i = j := by omega
    obtain rfl : i = posT T k := by omega
    by_cases hlt2 : posT T k < T.length
    · have h1 := row_at (R := Owner.g) hlt2
      rw [← hx] at h1
      have h3 := table_at1 T[posT T k] k
      have e : hasT T k = decide (T[posT T k].key = k) := by unfold hasT; rw [List.getElem?_eq_getElem hlt2]
      have h4 := cKey_eq (a := T[posT T k].key) (b := k)
      rw [e]
      generalize cKey T[posT T k].key k = c at *
      have c2 : decide (x < ((T.map Owner.g).length : Int)) = true := by simp; omega
      refine awp_go ?_
      repeat' (conv => whnf
               first
               | (refine And.intro (Or.inl (by kernel_rfl)) ?_)
               | (refine And.intro (by kernel_rfl) ?_)
               | (refine And.intro ⟨by kernel_rfl, by kernel_rfl⟩ ?_)
               | (refine cond_0 c1 ?_)
               | (refine cond_1 c2 ?_)
               | (refine ⟨_, h1, ?_⟩)
               | (refine Or.inl ⟨_, h3, ?_⟩)
               | (refine ⟨_, h3, ?_⟩)
               | (refine cond_f ?_ ?_)
               | (refine ⟨_, ⟨by decide, rfl⟩, ?_⟩)
               | (refine cond_i (fun h => ?_) (fun h => ?_)))
      all_goals (conv => whnf)
      all_goals
        rw [hx, ← decide_eq_decide.2 h4]
        rfl
    · have e : hasT T k = false := by unfold hasT; rw [List.getElem?_eq_none (by omega)]
      have c2 : decide (x < ((T.map Owner.g).length : Int)) = false := by simp; omega
      refine awp_go ?_
      repeat' (conv => whnf
               first
               | (refine And.intro (Or.inl (by kernel_rfl)) ?_)
               | (refine And.intro (by kernel_rfl) ?_)
               | (refine And.intro ⟨by kernel_rfl, by kernel_rfl⟩ ?_)
               | (refine cond_0 c1 ?_)
               | (refine cond_0 c2 ?_)
               | (refine cond_f ?_ ?_)
               | (refine ⟨_, ⟨by decide, rfl⟩, ?_⟩)
               | (refine cond_i (fun h => ?_) (fun h => ?_)))
      all_goals (conv => whnf)
      all_goals rw [hx, e]
end Go.Proofs.Ytcihkmnolagdlaa.Cn
namespace Go.Proofs.Ytcihkmnolagdlaa.Av
open Go Go.RowKit
set_option linter.unusedVariables false
set_option linter.unusedSimpArgs false

/-- What is told of a state may be told in other words. -/
theorem Fun.conv {P : Program} {f : FuncId} {args : List G} {bs : List (List G)} {rs : List (List (List G))} {R R' : G → List (Option (List G)) → List (Option (List (List G))) → Prop} (h : Fun P f args bs rs R)
    (hc : ∀ (C : Cx) (w : World) (v : Value) g bs' rs', R g bs' rs' → Rep C w g v → Mem C w bs' rs' → ∃ C' g' bs'' rs'', R' g' bs'' rs'' ∧ Rep C' w g' v ∧ Mem C' w bs'' rs'' ∧ C'.box = C.box ∧ C'.ex = C.ex ∧
      ∀ k B s sz n, C'.row k = some (some (B, s, sz, n)) → ∃ k', C.row k' = some (some (B, s, sz, n))) : Fun P f args bs rs R' := by
  refine ⟨h.1, fun C w t0 vs hl hr hM ht hb hr' hfx => (h.2 C w t0 vs hl hr hM ht hb hr' hfx).mono fun e w' q => ?_⟩
  obtain ⟨v, C', g, bs', rs', h1, h2, h3, h4, h5⟩ := q
  obtain ⟨C2, g2, b2, r2, k1, k2, k3, k4, k5, k6⟩ := hc C' w' v g bs' rs' h2 h3 h4
  refine ⟨v, C2, g2, b2, r2, h1, k1, k2, k3, ⟨fun b B hB => by rw [k4]; exact h5.box b B hB, h5.fr, fun B hB => by rw [k5]; exact h5.ex B hB, fun B hB => h5.exn B (by rw [← k5]; exact hB), fun b B hB => h5.tb b B (by rw [← k4]; exact hB), fun k B s sz n hk => ?_⟩⟩
  obtain ⟨k', hk'⟩ := k6 k B s sz n hk
  exact h5.tr k' B s sz n hk'
/-- Other rows of the same memory: new row i is the old row p i, with as many of its elements. -/
theorem Mem.rerow {C : Cx} {w : World} {bs : List (Option (List G))} {rs rs' : List (Option (List (List G)))} (h : Mem C w bs rs) (p : Nat → Option Nat) (hp : ∀ i j k, p i = some k → p j = some k → i = j)
    (hr : ∀ i xs, rs'[i]? = some (some xs) → ∃ k ys, p i = some k ∧ rs[k]? = some (some (xs ++ ys)) ∧ (ys = [] ∨ xs ≠ [] ∧ ¬ MapAt C w k (xs ++ ys)))
    (hd : ∀ i k, p i = some k → (∃ xs, rs[k]? = some (some xs)) → ∃ xs, rs'[i]? = some (some xs))
    (hb : ∀ cs, some cs ∈ bs → ∀ g ∈ cs, refR0 g = [] ∧ ∀ f caps, g ≠ .fn f caps ∧ g ≠ .meth f caps) :
    Mem { C with row := fun i => (p i).bind C.row } w bs rs' := by
  have lead : Leads C { C with row := fun i => (p i).bind C.row } w w some (fun _ => none) := ⟨fun b i B e hB => (by cases e; exact hB), fun k i q e => (by cases e), Keeps.refl _ _, fun _ _ h => h⟩
  have ren_id : ∀ g : G, refR0 g = [] → (∀ f caps, g ≠ .fn f caps ∧ g ≠ .meth f caps) → ren0 some (fun _ => none) g = g := fun g h1 h2 => by
    cases g <;> first | rfl | (simp [refR0] at h1; done) | exact absurd rfl (h2 _ _).1 | exact absurd rfl (h2 _ _).2
  refine ⟨fun b cs hx => ?_, fun i xs hx => ?_, h.domB, fun i r hi => ?_, h.bb, fun i j B s sz n s' sz' n' h1 h2 => ?_, fun b k B s sz n h1 h2 => ?_, h.lt⟩
  · obtain ⟨B, vs, T, k1, k2, k3, k4, k5, k6⟩ := h.box b cs hx
    refine ⟨B, vs, T, k1, k2, k3, k4, k5, fun i g v hg hv => ⟨(k6 i g v hg hv).1, ?_⟩⟩
    have hm := hb cs (List.mem_of_getElem? hx) g (List.mem_of_getElem? hg)
    have := ((k6 i g v hg hv).2).ren0 lead (k6 i g v hg hv).1
    rwa [ren_id g hm.1 hm.2] at this
  · obtain ⟨k, ys, e1, e2, e3⟩ := hr i xs hx
    have er : ∀ q, C.row k = q → ((p i).bind C.row) = q := fun q hq => by rw [e1]; exact hq
    rcases h.row k _ e2 with ⟨k1, k2⟩ | ⟨B, s, sz, n, vs, T, fz, k1, k2, k3, k4, k5, k6, k7, k8, k9⟩ | km
    · obtain ⟨rfl, rfl⟩ := List.append_eq_nil_iff.1 k2
      exact .inl ⟨er _ k1, rfl⟩
    · refine .inr (.inl ⟨B, s, sz, n, vs, T, fz, er _ k1, k2, k3, k4, ?_, k6, k7, fun r hr => k8 r (List.mem_append_left _ hr), fun a r j g v h1 h2 h3 => ?_⟩)
      · rcases e3 with rfl | ⟨e3, _⟩
        · simpa using k5
        · exact ⟨List.length_pos_iff.2 e3, by have := k5.2; rw [List.length_append] at this; omega⟩
      · have h1' : (xs ++ ys)[a]? = some r := by rw [List.getElem?_append_left (List.getElem?_eq_some_iff.1 h1).1]; exact h1
        exact (k9 a r j g v h1' h2 h3).keep0 ((k8 r (List.mem_of_getElem? h1')).2 g (List.mem_of_getElem? h2)) (Keeps.refl _ _) (fun _ _ h => h)
    · rcases e3 with rfl | ⟨_, e3⟩
      · rw [List.append_nil] at km
        exact .inr (.inr (km.move (fun q hq => er _ hq) (fun _ _ _ h => h) (fun _ _ _ => rfl) (fun g u hg hu => hu.keep0 hg (Keeps.refl _ _) (fun _ _ h => h))))
      · exact absurd km e3
  · cases hpi : p i with
    | none => have hi' : ((p i).bind C.row) = some r := hi; rw [hpi] at hi'; cases hi'
    | some k =>
      have hi' : ((p i).bind C.row) = some r := hi
      rw [hpi] at hi'
      exact hd i k hpi (h.domR k r hi')
  · have h1' : ((p i).bind C.row) = some (some (B, s, sz, n)) := h1
    have h2' : ((p j).bind C.row) = some (some (B, s', sz', n')) := h2
    obtain ⟨k, hk, h3⟩ := Option.bind_eq_some_iff.1 h1'
    obtain ⟨k', hk', h4⟩ := Option.bind_eq_some_iff.1 h2'
    obtain rfl := h.rr k k' B s sz n s' sz' n' h3 h4
    exact hp i j k hk hk'
  · have h2' : ((p k).bind C.row) = some (some (B, s, sz, n)) := h2
    obtain ⟨k', hk, h3⟩ := Option.bind_eq_some_iff.1 h2'
    exact h.br b k' B s sz n h1 h3
/-- The contract's first row cut short. -/
theorem Fp.cut {P : Program} {f : FuncId} {args : List G} {bs : List (List G)} {rs : List (List (List G))} {m : Nat} {xs ys : List (List G)} {rt : List (Option (List (List G)))} {g0 : G} (hx : xs ≠ []) (hg : ownG g0 = .own 0 0 m)
    (h : Fp P f args bs rs (g0, [], some (xs ++ ys) :: rt)) : Fp P f args bs rs (.own 0 0 m, [], some xs :: rt) := by
  refine Fun.conv h fun C w v g b r ⟨h1, h2, h3⟩ hr hM => ?_
  simp only at h1 h2 h3
  subst h1; subst h2; subst h3
  have hr' : Rep C w (.own 0 0 m) v := by rw [← hg]; exact hr.ownG
  refine ⟨C, _, _, _, ⟨rfl, rfl, rfl⟩, hr', ?_, rfl, rfl, fun k B s sz n hk => ⟨k, hk⟩⟩
  have := hM.rerow (rs' := some xs :: rt) (fun i => some i) (fun i j k e1 e2 => by cases e1; cases e2; rfl) (fun i zs hz => ?_) (fun i k e ⟨zs, hz⟩ => ?_) (fun cs hcs => by simp at hcs)
  · exact this
  · cases i with
    | zero =>
      have e : xs = zs := by simpa using hz
      subst e
      exact ⟨0, ys, rfl, by simp, .inr ⟨hx, fun km => hr'.own_nm km⟩⟩
    | succ i => exact ⟨i + 1, [], rfl, by simpa using hz, .inl rfl⟩
  · cases e
    cases i with
    | zero => exact ⟨xs, rfl⟩
    | succ i => exact ⟨zs, by simpa using hz⟩
/-- A new row, told in the place of the old one. -/
theorem Fp.swap {P : Program} {f : FuncId} {args : List G} {bs : List (List G)} {rs : List (List (List G))} {m : Nat} {xs zs : List (List G)}
    (h : Fp P f args bs rs (.own 1 0 m, [], [some xs, some zs])) : Fp P f args bs rs (.own 0 0 m, [], [some zs]) := by
  refine Fun.conv h fun C w v g b r ⟨h1, h2, h3⟩ hr hM => ?_
  simp only at h1 h2 h3
  subst h1; subst h2; subst h3
  let p : Nat → Option Nat := fun i => match i with | 0 => some 1 | _ => none
  have e0 : ∀ q, C.row 1 = q → (p 0).bind C.row = q := fun q h => h
  refine ⟨{ C with row := fun i => (p i).bind C.row }, _, _, _, ⟨rfl, rfl, rfl⟩, ?_, hM.rerow (rs' := [some zs]) p (fun i j k e1 e2 => ?_) (fun i xs' hz => ?_) (fun i k e hz => ?_) (fun cs hcs => by simp at hcs), rfl, rfl, fun k B s sz n hk => ?_⟩
  · cases hr with
    | own _ _ _ B s sz n a q1 q2 q3 q4 => exact .own 0 0 m B s sz n a (e0 _ q1) q2 q3 q4
    | ownnil _ A q1 => exact .ownnil 0 A (e0 _ q1)
  · match i, j, e1, e2 with
    | 0, 0, _, _ => rfl
    | 0, j + 1, _, e2 => simp [p] at e2
    | i + 1, _, e1, _ => simp [p] at e1
  · match i, hz with
    | 0, hz => exact ⟨1, [], rfl, by simpa using hz, .inl rfl⟩
  · match i, e with
    | 0, _ => exact ⟨_, rfl⟩
  · obtain ⟨k', _, h⟩ := Option.bind_eq_some_iff.1 hk
    exact ⟨k', h⟩
/-- .. in a variable. -/
theorem Fp.swapB {P : Program} {f : FuncId} {args : List G} {bs : List (List G)} {rs : List (List (List G))} {m : Nat} {xs zs : List (List G)} {g0 : G} (hg : g0.closed0 = true ∨ g0 = .tup [])
    (h : Fp P f args bs rs (g0, [some [.own 1 0 m]], [some xs, some zs])) : Fp P f args bs rs (g0, [some [.own 0 0 m]], [some zs]) := by
  refine Fun.conv h fun C w v g b r ⟨h1, h2, h3⟩ hr hM => ?_
  simp only at h1 h2 h3
  subst h1; subst h2; subst h3
  let p : Nat → Option Nat := fun i => match i with | 0 => some 1 | _ => none
  let C' : Cx := { C with row := fun i => (p i).bind C.row }
  have e0 : ∀ q, C.row 1 = q → C'.row 0 = q := fun q h => h
  have eI : ∀ k q, C'.row k = some q → k = 0 ∧ C.row 1 = some q := fun k q hk => by
    obtain ⟨k', h1, h2⟩ := Option.bind_eq_some_iff.1 (show (p k).bind C.row = some q from hk)
    match k, h1 with
    | 0, h1 => cases h1; exact ⟨rfl, h2⟩
  have hval : Rep C' w g v := by
    rcases hg with hg | rfl
    · exact hr.keep0 hg (Keeps.refl _ _) (fun _ _ h => h)
    · cases hr with
      | tup _ vs hl _ => exact .tup [] vs hl (fun i g v hg => by simp at hg)
  refine ⟨C', _, _, _, ⟨rfl, rfl, rfl⟩, hval, ⟨fun b cs hx => ?_, fun i ys hx => ?_, fun b B hB => ?_, fun i r hi => ?_, hM.bb, fun i j B s sz n s' sz' n' h1 h2 => ?_, fun b k B s sz n h1 h2 => hM.br b 1 B s sz n h1 (eI _ _ h2).2, hM.lt⟩, rfl, rfl, fun k B s sz n hk => ⟨1, (eI _ _ hk).2⟩⟩
  · cases b with
    | succ b => simp at hx
    | zero =>
      simp at hx; subst hx
      obtain ⟨B, vs, T, k1, k2, k3, k4, k5, k6⟩ := hM.box 0 _ rfl
      refine ⟨B, vs, T, k1, k2, k3, k4, k5, fun i g v hg hv => ?_⟩
      match i, hg with
      | 0, hg =>
        cases hg
        have := (k6 0 _ v rfl hv).2
        cases this with
        | own _ _ _ B s sz n a q1 q2 q3 q4 => exact ⟨rfl, .own 0 0 m B s sz n a (e0 _ q1) q2 q3 q4⟩
        | ownnil _ A q1 => exact ⟨rfl, .ownnil 0 A (e0 _ q1)⟩
  · match i, hx with
    | 0, hx =>
      rcases hM.row 1 ys hx with ⟨k1, k2⟩ | ⟨B, s, sz, n, vs, T, fz, k1, k2, k3, k4, k5, k6, k7, k8, k9⟩ | km
      · exact .inl ⟨e0 _ k1, k2⟩
      · exact .inr (.inl ⟨B, s, sz, n, vs, T, fz, e0 _ k1, k2, k3, k4, k5, k6, k7, k8, fun a r j g v h1 h2 h3 => (k9 a r j g v h1 h2 h3).keep0 ((k8 r (List.mem_of_getElem? h1)).2 g (List.mem_of_getElem? h2)) (Keeps.refl _ _) (fun _ _ h => h)⟩)
      · exact .inr (.inr (km.move (fun q hq => e0 _ hq) (fun _ _ _ h => h) (fun _ _ _ => rfl) (fun g u hg hu => hu.keep0 hg (Keeps.refl _ _) (fun _ _ h => h))))
  · obtain ⟨cs, hcs⟩ := hM.domB b B hB
    cases b with
    | zero => exact ⟨_, rfl⟩
    | succ b => simp at hcs
  · obtain ⟨rfl, _⟩ := eI i r hi
    exact ⟨_, rfl⟩
  · rw [(eI _ _ h1).1, (eI _ _ h2).1]
/-- A nil list in a variable that comes back, told as an own row of no elements. -/
theorem Fp.none0B {P : Program} {f : FuncId} {args : List G} {n l : Nat} {xs : List (List G)} (h : Fp P f args [] [] (.ptr 0 0, [some [.nils, .mp 0 n l]], [some xs])) : Fp P f args [] [] (.ptr 0 0, [some [.own 0 0 0, .mp 1 n l]], [some [], some xs]) := by
  refine Fun.conv h fun C w v g b r ⟨h1, h2, h3⟩ hr hM => ?_
  simp only at h1 h2 h3
  subst h1; subst h2; subst h3
  let C' : Cx := { C with row := fun i => if i = 0 then some none else if i = 1 then C.row 0 else none }
  have e0 : C'.row 0 = some none := rfl
  have e1 : ∀ q, C.row 0 = q → C'.row 1 = q := fun q h => h
  have eI : ∀ k q, C'.row k = some (some q) → k = 1 ∧ C.row 0 = some (some q) := fun k q hk => by
    have hk' : (if k = 0 then some none else if k = 1 then C.row 0 else none) = some (some q) := hk
    split at hk'
    · cases hk'
    · split at hk'
      · exact ⟨by assumption, hk'⟩
      · cases hk'
  have hptr : Rep C' w (.ptr 0 0) v := by
    cases hr with
    | ptr _ _ B hb => exact .ptr 0 0 B hb
  refine ⟨C', _, _, _, ⟨rfl, rfl, rfl⟩, hptr, ⟨fun b cs hx => ?_, fun i ys hx => ?_, fun b B hB => ?_, fun i r hi => ?_, hM.bb, fun i j B s sz n s' sz' n' h1 h2 => ?_, fun b k B s sz n h1 h2 => hM.br b 0 B s sz n h1 (eI _ _ h2).2, hM.lt⟩, rfl, rfl, fun k B s sz n hk => ⟨0, (eI _ _ hk).2⟩⟩
  · cases b with
    | succ b => simp at hx
    | zero =>
      simp at hx; subst hx
      obtain ⟨B, vs, T, k1, k2, k3, k4, k5, k6⟩ := hM.box 0 _ rfl
      refine ⟨B, vs, T, k1, k2, k3, k4, k5, fun i g v hg hv => ?_⟩
      match i, hg with
      | 0, hg =>
        cases hg
        have := (k6 0 .nils v rfl hv).2
        cases this
        exact ⟨rfl, .ownnil 0 none e0⟩
      | 1, hg =>
        cases hg
        obtain ⟨q1, q2⟩ := k6 1 _ v rfl hv
        cases q2 with
        | mp _ _ _ B' hr' => exact ⟨rfl, .mp 1 _ _ B' (e1 _ hr')⟩
  · match i, hx with
    | 0, hx => simp at hx; subst hx; exact .inl ⟨e0, rfl⟩
    | 1, hx =>
      rcases hM.row 0 ys hx with ⟨k1, k2⟩ | ⟨B, s, sz, n, vs, T, fz, k1, k2, k3, k4, k5, k6, k7, k8, k9⟩ | km
      · exact .inl ⟨e1 _ k1, k2⟩
      · exact .inr (.inl ⟨B, s, sz, n, vs, T, fz, e1 _ k1, k2, k3, k4, k5, k6, k7, k8, fun a r j g v h1 h2 h3 => (k9 a r j g v h1 h2 h3).keep0 ((k8 r (List.mem_of_getElem? h1)).2 g (List.mem_of_getElem? h2)) (Keeps.refl _ _) (fun _ _ h => h)⟩)
      · exact .inr (.inr (km.move (fun q hq => e1 _ hq) (fun _ _ _ h => h) (fun _ _ _ => rfl) (fun g u hg hu => hu.keep0 hg (Keeps.refl _ _) (fun _ _ h => h))))
  · obtain ⟨cs, hcs⟩ := hM.domB b B hB
    cases b with
    | zero => exact ⟨_, rfl⟩
    | succ b => simp at hcs
  · match i with
    | 0 => exact ⟨_, rfl⟩
    | 1 => exact ⟨_, rfl⟩
    | i + 2 =>
      have hi' : (if i + 2 = 0 then some none else if i + 2 = 1 then C.row 0 else none) = some r := hi
      rw [if_neg (by omega), if_neg (by omega)] at hi'
      cases hi'
  · rw [(eI _ _ h1).1, (eI _ _ h2).1]
/-- An own row that is handed over: all its cells are known, whatever they are. -/
theorem Fp.ownf {P : Program} {f : FuncId} {args : List G} {bs : List (List G)} {rs : List (List (List G))} {n sz : Nat} {xs : List (List G)} {q : G × List (Option (List G)) × List (Option (List (List G)))} (hne : xs ≠ []) (hsz : ∀ r ∈ xs, r.length = sz)
    (h : ∀ (S : List (List G)) (N : Nat), (∀ r ∈ S, r.length = sz ∧ ∀ g ∈ r, g.closed0 = true) → (xs ++ S).length = N → Fp P f (.ownf 0 0 n N :: args) bs ((xs ++ S) :: rs) q) : Fp P f (.own 0 0 n :: args) bs (xs :: rs) q := by
  refine ⟨(h [] xs.length (fun r hr => by simp at hr) (by simp)).1, fun C w t0 vs hl hr hM ht hb hr' hfx => ?_⟩
  match vs, hl with
  | v :: vs, hl =>
  have hv := hr 0 _ v rfl rfl
  rcases hM.row2 (k := 0) (xs := xs) rfl (fun km => hv.own_nm km) with ⟨_, e⟩ | ⟨B, s, z, N, us, T, fz, k1, k2, k3, k4, k5, k6, k7, k8, k9⟩
  · exact absurd e hne
  have hz : z = sz := by
    obtain ⟨x, hx⟩ := List.exists_mem_of_ne_nil xs hne
    rw [← (k8 x hx).1, hsz x hx]
  subst hz
  let S : List (List G) := (List.range (N - xs.length)).map fun i => (List.range z).map fun j => .lit (us.getD (s + (xs.length + i) * z + j) (.bool true))
  have hS : ∀ r ∈ S, r.length = z ∧ ∀ g ∈ r, g.closed0 = true := fun r hr => by
    obtain ⟨i, _, rfl⟩ := List.mem_map.1 hr
    refine ⟨by simp, fun g hg => ?_⟩
    obtain ⟨j, _, rfl⟩ := List.mem_map.1 hg
    rfl
  have hlen : (xs ++ S).length = N := by simp [S]; omega
  refine (h S N hS hlen).2 C w t0 _ (by simpa using hl) (fun i g u hg hu => ?_) { hM with row := fun k ys hk => ?_, domR := fun k r hk => ?_ } ht hb hr' hfx
  · cases i with
    | zero =>
      simp at hg hu; subst hg; subst hu
      cases hv with
      | own _ _ _ B' s' z' N' a q1 q2 q3 q4 => rw [k1] at q1; cases q1; exact .ownf 0 0 n _ _ _ _ a k1 q2 q3 q4
      | ownnil _ A q1 => rw [k1] at q1; cases q1
    | succ i => exact hr (i + 1) g u (by simpa using hg) (by simpa using hu)
  · cases k with
    | zero =>
      simp at hk; subst hk
      refine .inr (.inl ⟨B, s, z, N, us, T, fz, k1, k2, k3, k4, by rw [hlen]; omega, k6, k7, fun r hr => ?_, fun i r j g v h1 h2 h3 => ?_⟩)
      · rcases List.mem_append.1 hr with hr | hr
        · exact k8 r hr
        · exact hS r hr
      · by_cases hlt : i < xs.length
        · rw [List.getElem?_append_left hlt] at h1
          exact k9 i r j g v h1 h2 h3
        · rw [List.getElem?_append_right (by omega)] at h1
          simp only [S, List.getElem?_map] at h1
          obtain ⟨i', hi', rfl⟩ := Option.map_eq_some_iff.1 h1
          rw [List.getElem?_map] at h2
          obtain ⟨j', hj', rfl⟩ := Option.map_eq_some_iff.1 h2
          obtain ⟨_, rfl⟩ := List.getElem?_eq_some_iff.1 hi'
          obtain ⟨_, rfl⟩ := List.getElem?_eq_some_iff.1 hj'
          simp only [List.getElem_range]
          have e : us.getD (s + (xs.length + (i - xs.length)) * z + j) (.bool true) = v := by
            rw [show xs.length + (i - xs.length) = i from by omega, List.getD_eq_getElem?_getD, h3]; rfl
          rw [e]
          exact .lit v (k7 v (List.mem_of_getElem? h3))
    | succ k => exact hM.row (k + 1) ys (by simpa using hk)
  · obtain ⟨ys, hys⟩ := hM.domR k r hk
    cases k with
    | zero => exact ⟨_, rfl⟩
    | succ k => exact ⟨ys, by simpa using hys⟩
/-- Nil lists among the arguments, told as empty ones. -/
theorem Fp.nlA {P : Program} {f : FuncId} {args : List G} {bs : List (List G)} {rs : List (List (List G))} {q : G × List (Option (List G)) × List (Option (List (List G)))} (h : Fp P f (args.map nl) bs rs q) : Fp P f args bs rs q := by
  refine ⟨h.1, fun C w t0 vs hl hr hM h1 h2 h3 h4 => h.2 C w t0 vs (by simpa using hl) (fun i g v hg hv => ?_) hM h1 h2 h3 h4⟩
  rw [List.getElem?_map] at hg
  obtain ⟨x, hx, rfl⟩ := Option.map_eq_some_iff.1 hg
  exact (hr i x v hx hv).nl
end Go.Proofs.Ytcihkmnolagdlaa.Av
namespace Go.Proofs.Ytcihkmnolagdlaa.Cn
open Go Go.Proofs Go.Proofs.Ytcihkmnolagdlaa.Av Go.Proofs.Ytcihkmnolagdlaa.Sp
set_option linter.unusedVariables false
set_option linter.unusedSimpArgs false
set_option maxRecDepth 100000


theorem right_iff (a : Int) : right a = true ↔ 0 ≤ a ∧ a ≤ 16 := by unfold right; simp
theorem clean_right {a : Int} (h : right a = true) : clean a = a := by unfold clean; rw [if_pos ((right_iff a).1 h)]
theorem clean_wrong {a : Int} (h : right a = false) : clean a = 2 := by unfold clean; rw [if_neg (fun h' => by rw [(right_iff a).2 h'] at h; cases h)]
end Go.Proofs.Ytcihkmnolagdlaa.Cn
namespace Go.Proofs.Ytcihkmnolagdlaa.Cn
open Go Go.Proofs Go.Proofs.Ytcihkmnolagdlaa.Av Go.Proofs.Ytcihkmnolagdlaa.Sp
set_option linter.unusedVariables false
set_option linter.unusedSimpArgs false
set_option maxRecDepth 100000


end Go.Proofs.Ytcihkmnolagdlaa.Cn
namespace Go.Proofs.Ytcihkmnolagdlaa.Cn
open Go Go.Proofs Go.Proofs.Ytcihkmnolagdlaa.Av Go.Proofs.Ytcihkmnolagdlaa.Sp
set_option linter.unusedVariables false
set_option linter.unusedSimpArgs false
set_option maxRecDepth 100000
attribute [local irreducible] Fv Fp

theorem law23_One (c : Sp.Call) : Fv Try.prog 32 [.agg c.g] (.agg c.g) := by
  refine Fv.of_awp Try.func32 rfl (by kernel_rfl) rfl (Nat.le_of_ble_eq_true rfl) ?_
  repeat' (conv => whnf
           first
           | (refine And.intro (Or.inl (by kernel_rfl)) ?_)
           | (refine And.intro (by kernel_rfl) ?_)
           | (refine And.intro ⟨by kernel_rfl, by kernel_rfl⟩ ?_)
           | (refine cond_f ?_ ?_)
           | (refine ⟨_, ⟨by decide, rfl⟩, ?_⟩)
           | (refine cond_i (fun h => ?_) (fun h => ?_)))
  all_goals (conv => whnf)
  all_goals rfl
theorem law23_Mine (o : Owner) (hs : o.calls.length ≤ 30) : Fv Try.prog 11 [.agg o.g] (.agg o.g) := by
  refine Fv.of_awp Try.func11 rfl (by kernel_rfl) rfl (Nat.le_of_ble_eq_true rfl) ?_
  repeat' (conv => whnf
           first
           | (refine And.intro (Or.inl (by kernel_rfl)) ?_)
           | (refine And.intro (by kernel_rfl) ?_)
           | (refine And.intro ⟨by kernel_rfl, by kernel_rfl⟩ ?_)
           | (refine cond_f ?_ ?_)
           | (refine ⟨_, ⟨by decide, rfl⟩, ?_⟩)
           | (refine cond_i (fun h => ?_) (fun h => ?_)))
  all_goals (conv => whnf)
  refine Has.own0B 3 18 42 rfl rfl rfl ?_
  refine Has.each [1, 2, 3, 4] [] o.calls.length (OwnI Call.g o.calls) (fun b i =>
    St.of 45 [(1, .ptr 1 0), (2, .ptr 2 0), (3, .ptr 3 0), (4, .int .i64 i)] [(1, o.g), (2, zOwner.gw .nils), (3, o.gw (.own 42 0 b.1))] [(42, b.2)]) ⟨(0, []), _, rfl, ⟨rfl, rfl⟩, rfl⟩ (fun k b hk hI => ?_) (fun b hI => ?_)
  · obtain ⟨n, xs⟩ := b
    obtain ⟨rfl, rfl⟩ : n = k ∧ xs = _ := hI
    refine awp_go ?_
    repeat' (conv => whnf
             first
             | (refine And.intro (Or.inl (by kernel_rfl)) ?_)
             | (refine And.intro (by kernel_rfl) ?_)
             | (refine And.intro ⟨by kernel_rfl, by kernel_rfl⟩ ?_)
             | (refine cond_1 (lt_at hk) ?_)
             | (refine ⟨_, row_at hk, ?_⟩)
             | (refine Or.inl ⟨_, law23_One o.calls[n], ?_⟩)
             | (refine ⟨_, law23_One o.calls[n], ?_⟩)
             | (refine ⟨app_at 13 104 (Nat.le_of_lt hk) (by kernel_rfl) (by kernel_rfl) (fun _ => rfl) (by omega), ?_⟩)
             | (refine cond_f ?_ ?_)
             | (refine ⟨_, ⟨by decide, rfl⟩, ?_⟩)
             | (refine cond_i (fun h => ?_) (fun h => ?_)))
    all_goals (conv => whnf)
    exact ⟨(_, _), _, rfl, ⟨rfl, own_app (R := Call.g) hk⟩, up1 hk (by omega)⟩
  · obtain ⟨n, xs⟩ := b
    obtain ⟨rfl, rfl⟩ : n = _ ∧ xs = _ := hI
    refine awp_go ?_
    repeat' (conv => whnf
             first
             | (refine And.intro (Or.inl (by kernel_rfl)) ?_)
             | (refine And.intro (by kernel_rfl) ?_)
             | (refine And.intro ⟨by kernel_rfl, by kernel_rfl⟩ ?_)
             | (refine cond_0 lt_end ?_)
             | (refine ⟨own_le, ?_⟩)
             | (refine cond_f ?_ ?_)
             | (refine ⟨_, ⟨by decide, rfl⟩, ?_⟩)
             | (refine cond_i (fun h => ?_) (fun h => ?_)))
    all_goals (conv => whnf)
    simp only [own_all]
    rfl
theorem law23_Theirs (o : Owner) (hs : o.calls.length ≤ 31) : Fv Try.prog 14 [.agg o.g] (.agg o.g) := by
  refine Fv.of_awp Try.func14 rfl (by kernel_rfl) rfl (Nat.le_of_ble_eq_true rfl) ?_
  repeat' (conv => whnf
           first
           | (refine And.intro (Or.inl (by kernel_rfl)) ?_)
           | (refine And.intro (by kernel_rfl) ?_)
           | (refine And.intro ⟨by kernel_rfl, by kernel_rfl⟩ ?_)
           | (refine cond_f ?_ ?_)
           | (refine ⟨_, ⟨by decide, rfl⟩, ?_⟩)
           | (refine cond_i (fun h => ?_) (fun h => ?_)))
  all_goals (conv => whnf)
  refine Has.own0B 3 18 65 rfl rfl rfl ?_
  refine Has.each [1, 2, 3, 4] [5] o.calls.length (OwnI Call.g o.calls) (fun b i =>
    St.of 68 [(1, .ptr 1 0), (2, .ptr 2 0), (3, .ptr 3 0), (4, .int .i64 i)] [(1, o.g), (2, zOwner.gw .nils), (3, o.gw (.own 65 0 b.1))] [(65, b.2)]) ⟨(0, []), _, rfl, ⟨rfl, rfl⟩, rfl⟩ (fun k b hk hI => ?_) (fun b hI => ?_)
  · obtain ⟨n, xs⟩ := b
    obtain ⟨rfl, rfl⟩ : n = k ∧ xs = _ := hI
    refine awp_go ?_
    repeat' (conv => whnf
             first
             | (refine And.intro (Or.inl (by kernel_rfl)) ?_)
             | (refine And.intro (by kernel_rfl) ?_)
             | (refine And.intro ⟨by kernel_rfl, by kernel_rfl⟩ ?_)
             | (refine cond_1 (lt_at hk) ?_)
             | (refine ⟨_, row_at hk, ?_⟩)
             | (refine ⟨app_at 13 104 (Nat.le_of_lt hk) (by kernel_rfl) (by kernel_rfl) (fun _ => rfl) (by omega), ?_⟩)
             | (refine cond_f ?_ ?_)
             | (refine ⟨_, ⟨by decide, rfl⟩, ?_⟩)
             | (refine cond_i (fun h => ?_) (fun h => ?_)))
    all_goals (conv => whnf)
    exact ⟨(_, _), _, rfl, ⟨rfl, own_app (R := Call.g) hk⟩, up1 hk (by omega)⟩
  · obtain ⟨n, xs⟩ := b
    obtain ⟨rfl, rfl⟩ : n = _ ∧ xs = _ := hI
    refine awp_go ?_
    repeat' (conv => whnf
             first
             | (refine And.intro (Or.inl (by kernel_rfl)) ?_)
             | (refine And.intro (by kernel_rfl) ?_)
             | (refine And.intro ⟨by kernel_rfl, by kernel_rfl⟩ ?_)
             | (refine cond_0 lt_end ?_)
             | (refine ⟨own_le, ?_⟩)
             | (refine cond_f ?_ ?_)
             | (refine ⟨_, ⟨by decide, rfl⟩, ?_⟩)
             | (refine cond_i (fun h => ?_) (fun h => ?_)))
    all_goals (conv => whnf)
    simp only [own_all]
    rfl
set_option maxHeartbeats 2000000 in
theorem ref23_Same (a b : Owner) (hs : a.calls.length < 4611686018427387904) : Fv Try.prog 13 [.agg a.g, .agg b.g] (.bool (decide (a = b))) := by
  refine Fv.of_awp Try.func13 rfl (by kernel_rfl) rfl (Nat.le_of_ble_eq_true rfl) ?_
  repeat' (conv => whnf
           first
           | (refine And.intro (Or.inl (by kernel_rfl)) ?_)
           | (refine And.intro (by kernel_rfl) ?_)
           | (refine And.intro ⟨by kernel_rfl, by kernel_rfl⟩ ?_)
           | (refine cond_f ?_ ?_)
           | (refine ⟨_, ⟨by decide, rfl⟩, ?_⟩)
           | (refine cond_i (fun h => ?_) (fun h => ?_)))
  all_goals (conv => whnf)
  · refine bool_eq ?_
    simp only [List.length_map, bne_iff_ne, ne_eq] at h
    rw [eq_comm, decide_eq_false_iff_not]
    rintro rfl
    exact h rfl
  · simp only [List.length_map, bne_eq_false_iff_eq] at h
    have hl : a.calls.length = b.calls.length := by omega
    refine Has.each [2, 3, 5] [] a.calls.length (fun k (_ : Unit) => a.calls.take k = b.calls.take k) (fun _ i =>
      St.of 99 [(2, .ptr 2 0), (3, .ptr 3 0), (5, .int .i64 i)] [(2, a.g), (3, b.g)] []) ⟨(), _, rfl, by simp, rfl⟩ (fun k _ hk hI => ?_) (fun _ hI => ?_)
    · have hk2 : k < b.calls.length := by omega
      refine awp_go ?_
      repeat' (conv => whnf
               first
               | (refine And.intro (Or.inl (by kernel_rfl)) ?_)
               | (refine And.intro (by kernel_rfl) ?_)
               | (refine And.intro ⟨by kernel_rfl, by kernel_rfl⟩ ?_)
               | (refine cond_1 (lt_at hk) ?_)
               | (refine ⟨_, row_at hk, ?_⟩)
               | (refine ⟨_, row_at hk2, ?_⟩)
               | (refine cond_f ?_ ?_)
               | (refine ⟨_, ⟨by decide, rfl⟩, ?_⟩)
               | (refine cond_i (fun h => ?_) (fun h => ?_)))
      all_goals (conv => whnf)
      all_goals simp only [call_eqB, Bool.not_eq_true', Bool.not_eq_false', decide_eq_true_eq, decide_eq_false_iff_not] at h
      · refine bool_eq ?_
        rw [eq_comm, decide_eq_false_iff_not]
        rintro rfl
        exact h rfl
      · exact ⟨(), _, rfl, by rw [take_at hk, take_at hk2, hI, h], up1 hk hs⟩
    · refine awp_go ?_
      repeat' (conv => whnf
               first
               | (refine And.intro (Or.inl (by kernel_rfl)) ?_)
               | (refine And.intro (by kernel_rfl) ?_)
               | (refine And.intro ⟨by kernel_rfl, by kernel_rfl⟩ ?_)
               | (refine cond_0 lt_end ?_)
               | (refine cond_f ?_ ?_)
               | (refine ⟨_, ⟨by decide, rfl⟩, ?_⟩)
               | (refine cond_i (fun h => ?_) (fun h => ?_)))
      all_goals (conv => whnf)
      all_goals
        have he := take_eq_all hl hI
        clear hI
        simp only [id_eqB, key_eqC, beq_iff_eq, beq_eq_false_iff_ne, ne_eq, decide_eq_true_eq, decide_eq_false_iff_not] at *
        refine bool_eq ?_
        rw [Bool.eq_iff_iff]
        simp [owner_ext, sameH, *]
end Go.Proofs.Ytcihkmnolagdlaa.Cn
namespace Go.Proofs.Ytcihkmnolagdlaa.Cn
open Go Go.Proofs Go.Proofs.Ytcihkmnolagdlaa.Av Go.Proofs.Ytcihkmnolagdlaa.Sp
set_option linter.unusedVariables false
set_option linter.unusedSimpArgs false
set_option linter.unusedSectionVars false
set_option maxRecDepth 100000
attribute [local irreducible] Fv Fp

theorem own_cells : Try.prog.cellsOf 42 = 19 := by kernel_rfl
theorem own_bytes : Try.prog.bytesOf 42 = 168 := by kernel_rfl
set_option maxHeartbeats 4000000 in
theorem insert_end (X : List (List G)) (n : Nat) (o : Owner) (hn : n ≤ X.length) (hs : n ≤ 40) (hx : ∀ r ∈ X, r.length = 19) :
    Fp Try.prog 31 [.own 0 0 n, .int .i64 n, .sl [o.g]] [] [X] (.own 0 0 (n + 1), [], [some (X.take n ++ [o.g])]) := by
  refine Fp.of_awp Try.func31 rfl (by kernel_rfl) (Nat.le_of_ble_eq_true rfl) ?_
  have f1 : 0 ≤ (n : Int) ∧ (n : Int) ≤ n ∧ (n : Int) ≤ n ∧ ∀ r ∈ X, r.length = Try.prog.cellsOf 42 := ⟨by omega, by omega, by omega, by rw [own_cells]; exact hx⟩
  have f2 : ((n : Int) == n) = true := by simp
  have f3 : 0 + n ≤ X.length ∧ (0 < n + [o.g].length ∨ X = []) ∧ fitsB Try.prog 42 (n + [o.g].length) ∧ ∀ r ∈ X, r.length = Try.prog.cellsOf 42 :=
    ⟨by omega, .inl (by simp), fits 168 own_bytes (by simp; omega), f1.2.2.2⟩
  repeat' (conv => whnf
           first
           | (refine And.intro (Or.inl (by kernel_rfl)) ?_)
           | (refine And.intro (by kernel_rfl) ?_)
           | (refine And.intro ⟨by kernel_rfl, by kernel_rfl⟩ ?_)
           | (refine ⟨f1, ?_⟩)
           | (refine cond_1 f2 ?_)
           | (refine ⟨Nat.le_refl _, ?_⟩)
           | (refine ⟨f3, ?_⟩)
           | (refine cond_f ?_ ?_)
           | (refine ⟨_, ⟨by decide, rfl⟩, ?_⟩)
           | (refine cond_i (fun h => ?_) (fun h => ?_)))
  all_goals (conv => whnf)
  all_goals rfl
theorem own_ok (o : Owner) : okRows (Try.prog.cellsOf 42) [o.g] = true := by rw [own_cells]; rfl
theorem rows_dr {X : List (List G)} {a b m c : Nat} {z : List G} (hX : ∀ r ∈ X, r.length = c) (hz : z.length = c) : ∀ r ∈ (X.drop a).take b ++ List.replicate m z, r.length = c := fun r hr => by
  rcases List.mem_append.1 hr with hr | hr
  · exact hX r (List.mem_of_mem_drop (List.mem_of_mem_take hr))
  · rw [List.mem_replicate] at hr; rw [hr.2]; exact hz
theorem ok_sub {c : Nat} {X Y : List (List G)} (hx : ∀ r ∈ X, r.length = c ∧ ∀ g ∈ r, g.closed0 = true) (h : ∀ r ∈ Y, r ∈ X) : okRows c Y = true := by
  unfold okRows
  rw [List.all_eq_true]
  intro r hr
  have := hx r (h r hr)
  rw [Bool.and_eq_true, List.all_eq_true]
  exact ⟨by simp [this.1], this.2⟩
def zRow : List G := zOwner.gw .nils
set_option maxHeartbeats 4000000 in
theorem insert_grow (X : List (List G)) (n i : Nat) (o : Owner) (hn : X.length = n) (hi : i < n) (hs : n ≤ 40) (hx : ∀ r ∈ X, r.length = 19 ∧ ∀ g ∈ r, g.closed0 = true) :
    Fp Try.prog 31 [.ownf 0 0 n n, .int .i64 i, .sl [o.g]] [] [X] (.own 1 0 (n + 1), [], [some X, some (X.take i ++ o.g :: X.drop i)]) := by
  refine Fp.of_awp Try.func31 rfl (by kernel_rfl) (Nat.le_of_ble_eq_true rfl) ?_
  have f0 : ∀ r ∈ X, r.length = Try.prog.cellsOf 42 := by rw [own_cells]; exact fun r hr => (hx r hr).1
  have f1 : 0 ≤ (i : Int) ∧ (i : Int) ≤ n ∧ 0 + n ≤ X.length ∧ 0 < X.length ∧ ∀ r ∈ X, r.length = Try.prog.cellsOf 42 := ⟨by omega, by omega, by omega, by omega, f0⟩
  have f2 : ((i : Int) == n) = false := by simp; omega
  have e3 : IntKind.i64.wrap ((n : Int) + 1) = n + 1 := wrap_i64 (by omega)
  have f3 : decide (IntKind.i64.wrap ((n : Int) + 1) > ((n - 0 : Nat) : Int)) = true := by rw [e3]; simp; omega
  have f4 : 0 ≤ ((0 : Nat) : Int) ∧ ((0 : Nat) : Int) ≤ (i : Int) ∧ 0 + (i : Int).toNat ≤ X.length ∧ 0 < X.length ∧ ∀ r ∈ X, r.length = Try.prog.cellsOf 42 := ⟨by omega, by omega, by omega, by omega, f0⟩
  have e4 : IntKind.i64.wrap (IntKind.i64.wrap ((n : Int) + ([o.g].length : Int)) - i) = ((n + 1 - i : Nat) : Int) := by rw [show IntKind.i64.wrap ((n : Int) + ([o.g].length : Int)) = n + 1 from e3, wrap_i64 (by omega)]; omega
  repeat' (conv => whnf
           first
           | (refine And.intro (Or.inl (by kernel_rfl)) ?_)
           | (refine And.intro (by kernel_rfl) ?_)
           | (refine And.intro ⟨by kernel_rfl, by kernel_rfl⟩ ?_)
           | (refine ⟨f1, ?_⟩)
           | (refine cond_0 f2 ?_)
           | (refine cond_1 f3 ?_)
           | (refine ⟨f4, ?_⟩)
           | (refine ⟨⟨by omega, by omega, by omega, fits 168 own_bytes (by omega), f0⟩, ?_⟩)
           | (refine ⟨⟨by omega, by omega, by omega, rows_dr f0 (Eq.trans rfl own_cells.symm)⟩, ?_⟩)
           | (refine cond_f ?_ ?_)
           | (refine ⟨_, ⟨by decide, rfl⟩, ?_⟩)
           | (refine cond_i (fun h => ?_) (fun h => ?_)))
  all_goals (conv => whnf)
  refine ⟨by rw [e4]; show 1 ≤ _; omega, ⟨own_ok o, ?_, ?_, rows_dr f0 (Eq.trans rfl own_cells.symm)⟩, ?_⟩
  · simp only [List.length_append, List.length_take, List.length_drop, List.length_replicate]; rw [e4]; simp; omega
  · simp only [List.length_append, List.length_take, List.length_drop, List.length_replicate]; rw [e4]; simp; omega
  rw [e4]
  have e6 : blitR (((X.drop (0 + 0)).take ((i : Int).toNat - 0)) ++ List.replicate (((n + 1 - i : Nat) : Int)).toNat zRow) (0 + (i : Int).toNat) [o.g] = X.take i ++ o.g :: List.replicate (n - i) zRow := by
    unfold blitR
    simp only [List.drop_zero, Nat.zero_add, Int.toNat_natCast, Nat.sub_zero]
    rw [List.take_append_of_le_length (by simp; omega), List.take_take, Nat.min_self, List.drop_append, List.drop_eq_nil_of_le (by simp; omega), List.drop_replicate]
    simp
    omega
  generalize hB : blitR _ _ _ = B1
  have hB1 : B1 = X.take i ++ o.g :: List.replicate (n - i) zRow := hB.symm.trans e6
  clear e6 hB
  have g1 : ∀ r ∈ B1, r.length = Try.prog.cellsOf 42 := by
    rw [own_cells, hB1]
    intro r hr
    simp only [List.mem_append, List.mem_cons, List.mem_replicate] at hr
    rcases hr with hr | rfl | ⟨_, rfl⟩
    · exact (hx r (List.mem_of_mem_take hr)).1
    · rfl
    · rfl
  have g2 : B1.length = n + 1 := by rw [hB1]; simp; omega
  have e7 : IntKind.i64.wrap ((i : Int) + ([o.g].length : Int)) = i + 1 := wrap_i64 (by show -9223372036854775808 ≤ (i : Int) + ((1 : Nat) : Int) ∧ (i : Int) + ((1 : Nat) : Int) ≤ 9223372036854775807; omega)
  repeat' (conv => whnf
           first
           | (refine And.intro (Or.inl (by kernel_rfl)) ?_)
           | (refine And.intro (by kernel_rfl) ?_)
           | (refine And.intro ⟨by kernel_rfl, by kernel_rfl⟩ ?_)
           | (refine ⟨⟨by omega, by omega, by omega, g1⟩, ?_⟩)
           | (refine ⟨f1, ?_⟩)
           | (refine cond_f ?_ ?_)
           | (refine ⟨_, ⟨by decide, rfl⟩, ?_⟩)
           | (refine cond_i (fun h => ?_) (fun h => ?_)))
  all_goals (conv => whnf)
  rw [show min (n - (i : Int).toNat) ((i : Int).toNat - 0 + (((n + 1 - i : Nat) : Int)).toNat - (IntKind.i64.wrap ((i : Int) + ([o.g].length : Int))).toNat) = n - i from by rw [e7]; omega]
  have g3 : ((X.drop (0 + (i : Int).toNat)).take (n - i)) = X.drop i := by
    rw [Nat.zero_add, Int.toNat_natCast]; exact List.take_of_length_le (by simp; omega)
  have g4 : okRows (Try.prog.cellsOf 42) (X.drop i) = true := by
    rw [own_cells]; unfold okRows
    rw [List.all_eq_true]
    intro r hr
    have := hx r (List.mem_of_mem_drop hr)
    rw [Bool.and_eq_true, List.all_eq_true]
    exact ⟨by simp [this.1], this.2⟩
  rw [g3]
  refine ⟨by omega, ⟨g4, ?_, ?_, g1⟩, ?_⟩
  · rw [e7, List.length_drop]; omega
  · rw [e7]; omega
  have e8 : blitR B1 (0 + (IntKind.i64.wrap ((i : Int) + ([o.g].length : Int))).toNat) (X.drop i) = X.take i ++ o.g :: X.drop i := by
    rw [e7, hB1]
    unfold blitR
    have e9 : (0 + ((i : Int) + 1).toNat) = (X.take i ++ [o.g]).length := by simp; omega
    rw [show X.take i ++ o.g :: List.replicate (n - i) zRow = (X.take i ++ [o.g]) ++ List.replicate (n - i) zRow from by simp, e9, List.take_left', List.drop_append]
    · simp; omega
    · rfl
  generalize hB : blitR _ _ _ = B2
  obtain rfl : B2 = X.take i ++ o.g :: X.drop i := hB.symm.trans e8
  repeat' (conv => whnf
           first
           | (refine And.intro (Or.inl (by kernel_rfl)) ?_)
           | (refine And.intro (by kernel_rfl) ?_)
           | (refine And.intro ⟨by kernel_rfl, by kernel_rfl⟩ ?_)
           | (refine cond_f ?_ ?_)
           | (refine ⟨_, ⟨by decide, rfl⟩, ?_⟩)
           | (refine cond_i (fun h => ?_) (fun h => ?_)))
  all_goals (conv => whnf)
  rw [show (i : Int).toNat - 0 + (((n + 1 - i : Nat) : Int)).toNat = n + 1 from by omega]
  rfl
theorem own_ovl : Ovl Try.prog 47 42 :=
  ⟨_, 60, 4, Try.func47, by kernel_rfl, by kernel_rfl, by kernel_rfl, by kernel_rfl, by kernel_rfl, by kernel_rfl, by rw [own_cells]; decide⟩
set_option maxHeartbeats 4000000 in
theorem insert_in (Y : List (List G)) (n i N : Nat) (o : Owner) (hN : Y.length = N) (hn : n < N) (hi : i < n) (hs : n ≤ 40) (hx : ∀ r ∈ Y, r.length = 19 ∧ ∀ g ∈ r, g.closed0 = true) :
    Fp Try.prog 31 [.ownf 0 0 n N, .int .i64 i, .sl [o.g]] [] [Y] (.ownf 0 0 (n + 1) N, [], [some ((Y.take i ++ o.g :: (Y.drop i).take (n - i)) ++ Y.drop (n + 1))]) := by
  refine Fp.of_awp Try.func31 rfl (by kernel_rfl) (Nat.le_of_ble_eq_true rfl) ?_
  have f0 : ∀ r ∈ Y, r.length = Try.prog.cellsOf 42 := by rw [own_cells]; exact fun r hr => (hx r hr).1
  have f1 : 0 ≤ (i : Int) ∧ (i : Int) ≤ n ∧ 0 + n ≤ Y.length ∧ 0 < Y.length ∧ ∀ r ∈ Y, r.length = Try.prog.cellsOf 42 := ⟨by omega, by omega, by omega, by omega, f0⟩
  have f2 : ((i : Int) == n) = false := by simp; omega
  have e3 : IntKind.i64.wrap ((n : Int) + ([o.g].length : Int)) = n + 1 := wrap_i64 (by show -9223372036854775808 ≤ (n : Int) + ((1 : Nat) : Int) ∧ (n : Int) + ((1 : Nat) : Int) ≤ 9223372036854775807; omega)
  have e7 : IntKind.i64.wrap ((i : Int) + ([o.g].length : Int)) = i + 1 := wrap_i64 (by show -9223372036854775808 ≤ (i : Int) + ((1 : Nat) : Int) ∧ (i : Int) + ((1 : Nat) : Int) ≤ 9223372036854775807; omega)
  have f3 : decide (IntKind.i64.wrap ((n : Int) + ([o.g].length : Int)) > ((N - 0 : Nat) : Int)) = false := by rw [e3]; simp; omega
  have f5 : ∃ e, Ovl Try.prog 47 e ∧ (∀ r ∈ [o.g], r.length = Try.prog.cellsOf e) ∧ 0 < [o.g].length ∧ 0 < Y.length := ⟨_, own_ovl, fun r hr => by rw [List.mem_singleton.1 hr, own_cells]; rfl, by simp, by omega⟩
  repeat' (conv => whnf
           first
           | (refine And.intro (Or.inl (by kernel_rfl)) ?_)
           | (refine And.intro (by kernel_rfl) ?_)
           | (refine And.intro ⟨by kernel_rfl, by kernel_rfl⟩ ?_)
           | (refine ⟨f1, ?_⟩)
           | (refine cond_0 f2 ?_)
           | (refine cond_0 f3 ?_)
           | (refine ⟨⟨by omega, by omega, by omega, by omega, f0⟩, ?_⟩)
           | (refine ⟨⟨by omega, by omega, by omega, by omega, f0⟩, ?_⟩)
           | (refine ⟨f5, ?_⟩)
           | (refine ⟨⟨by omega, by omega, by omega, by omega, f0⟩, ?_⟩)
           | (refine ⟨⟨by omega, by omega, by omega, by omega, f0⟩, ?_⟩)
           | (refine cond_f ?_ ?_)
           | (refine ⟨_, ⟨by decide, rfl⟩, ?_⟩)
           | (refine cond_i (fun h => ?_) (fun h => ?_)))
  all_goals (conv => whnf)
  rw [show min ((IntKind.i64.wrap ((n : Int) + ([o.g].length : Int))).toNat - 0 - (i : Int).toNat) ((IntKind.i64.wrap ((n : Int) + ([o.g].length : Int))).toNat - 0 - (IntKind.i64.wrap ((i : Int) + ([o.g].length : Int))).toNat) = n - i from by rw [e3, e7]; omega]
  have g3 : ((Y.drop (0 + 0 + (i : Int).toNat)).take (n - i)) = (Y.drop i).take (n - i) := by
    rw [show 0 + 0 + (i : Int).toNat = i from by omega]
  have g4 : okRows (Try.prog.cellsOf 42) ((Y.drop i).take (n - i)) = true := by
    rw [own_cells]; exact ok_sub hx fun r hr => List.mem_of_mem_drop (List.mem_of_mem_take hr)
  rw [g3]
  have g6 : ((Y.drop i).take (n - i)).length = n - i := by rw [List.length_take, List.length_drop]; omega
  refine ⟨by omega, ⟨g4, by rw [e7, g6]; omega, by rw [e7]; omega, f0⟩, ?_⟩
  have e8 : blitR Y (0 + 0 + (IntKind.i64.wrap ((i : Int) + ([o.g].length : Int))).toNat) ((Y.drop i).take (n - i)) = Y.take (i + 1) ++ (Y.drop i).take (n - i) ++ Y.drop (n + 1) := by
    rw [e7]
    unfold blitR
    rw [g6, show 0 + 0 + ((i : Int) + 1).toNat = i + 1 from by omega, show i + 1 + (n - i) = n + 1 from by omega]
  generalize hB : blitR _ _ _ = B1
  have hB1 : B1 = Y.take (i + 1) ++ (Y.drop i).take (n - i) ++ Y.drop (n + 1) := hB.symm.trans e8
  clear e8 hB
  have g1 : ∀ r ∈ B1, r.length = Try.prog.cellsOf 42 := by
    rw [hB1]
    intro r hr
    simp only [List.mem_append] at hr
    rcases hr with (hr | hr) | hr
    · exact f0 r (List.mem_of_mem_take hr)
    · exact f0 r (List.mem_of_mem_drop (List.mem_of_mem_take hr))
    · exact f0 r (List.mem_of_mem_drop hr)
  have g2 : B1.length = N := by rw [hB1, List.length_append, List.length_append, g6, List.length_take, List.length_drop]; omega
  repeat' (conv => whnf
           first
           | (refine And.intro (Or.inl (by kernel_rfl)) ?_)
           | (refine And.intro (by kernel_rfl) ?_)
           | (refine And.intro ⟨by kernel_rfl, by kernel_rfl⟩ ?_)
           | (refine ⟨⟨by omega, by omega, by omega, by omega, g1⟩, ?_⟩)
           | (refine cond_f ?_ ?_)
           | (refine ⟨_, ⟨by decide, rfl⟩, ?_⟩)
           | (refine cond_i (fun h => ?_) (fun h => ?_)))
  all_goals (conv => whnf)
  refine ⟨by rw [e3]; show 1 ≤ _; omega, ⟨own_ok o, ?_, by omega, g1⟩, ?_⟩
  · show 0 + 0 + (i : Int).toNat + 1 ≤ _; omega
  have e8 : blitR B1 (0 + 0 + (i : Int).toNat) [o.g] = (Y.take i ++ o.g :: (Y.drop i).take (n - i)) ++ Y.drop (n + 1) := by
    rw [hB1]
    unfold blitR
    rw [show 0 + 0 + (i : Int).toNat = i from by omega, show [o.g].length = 1 from rfl, List.append_assoc (Y.take (i + 1)), List.take_append_of_le_length (by simp; omega), List.take_take, Nat.min_eq_left (by omega),
      List.drop_append, List.drop_eq_nil_of_le (by simp; omega), show i + 1 - (Y.take (i + 1)).length = 0 from by simp; omega]
    simp
  generalize hB : blitR _ _ _ = B2
  obtain rfl : B2 = (Y.take i ++ o.g :: (Y.drop i).take (n - i)) ++ Y.drop (n + 1) := hB.symm.trans e8
  repeat' (conv => whnf
           first
           | (refine And.intro (Or.inl (by kernel_rfl)) ?_)
           | (refine And.intro (by kernel_rfl) ?_)
           | (refine And.intro ⟨by kernel_rfl, by kernel_rfl⟩ ?_)
           | (refine cond_f ?_ ?_)
           | (refine ⟨_, ⟨by decide, rfl⟩, ?_⟩)
           | (refine cond_i (fun h => ?_) (fun h => ?_)))
  all_goals (conv => whnf)
  rw [show (IntKind.i64.wrap ((n : Int) + ([o.g].length : Int))).toNat - 0 = n + 1 from by rw [e3]; omega]
  rfl
theorem slices_Insert (X : List (List G)) (n i : Nat) (o : Owner) (hn : n ≤ X.length) (hi : i ≤ n) (hs : n ≤ 40) (hx : ∀ r ∈ X, r.length = 19 ∧ ∀ g ∈ r, g.closed0 = true) :
    Fp Try.prog 31 [.own 0 0 n, .int .i64 i, .sl [o.g]] [] [X] (.own 0 0 (n + 1), [], [some ((X.take n).take i ++ o.g :: (X.take n).drop i)]) := by
  by_cases hin : i = n
  · subst hin
    have := insert_end X i o hn hs (fun r hr => (hx r hr).1)
    rw [List.drop_eq_nil_of_le (by rw [List.length_take]; omega), List.take_take, Nat.min_self]
    exact this
  · refine Fp.ownf (sz := 19) (by intro e; subst e; simp at hn; omega) (fun r hr => (hx r hr).1) fun S N hS hN => ?_
    have hx' : ∀ r ∈ X ++ S, r.length = 19 ∧ ∀ g ∈ r, g.closed0 = true := fun r hr => by
      rcases List.mem_append.1 hr with hr | hr
      · exact hx r hr
      · exact hS r hr
    have hN' := hN
    rw [List.length_append] at hN'
    have e1 : (X ++ S).take n = X.take n := List.take_append_of_le_length hn
    by_cases hlt : n < N
    · have h := insert_in (X ++ S) n i N o hN hlt (by omega) hs hx'
      refine Fp.cut (g0 := .ownf 0 0 (n + 1) N) (ys := (X ++ S).drop (n + 1)) (by simp) rfl ?_
      have e2 : (X ++ S).take i ++ o.g :: ((X ++ S).drop i).take (n - i) = (X.take n).take i ++ o.g :: (X.take n).drop i := by
        rw [← e1, List.take_take, Nat.min_eq_left hi, List.drop_take]
      rw [e2] at h
      exact h
    · obtain rfl : S = [] := List.length_eq_zero_iff.1 (by omega)
      obtain rfl : N = n := by simp at hN; omega
      rw [List.append_nil] at hN hx' ⊢
      have h := insert_grow X N i o hN (by omega) hs hx'
      rw [List.take_of_length_le (Nat.le_of_eq hN)]
      exact Fp.swap h
set_option maxHeartbeats 4000000 in
theorem delete_in (Y : List (List G)) (n i N : Nat) (j : Int) (hj : j = i + 1) (hN : Y.length = N) (hn : n ≤ N) (hi : i < n) (hs : n ≤ 40) (hx : ∀ r ∈ Y, r.length = 19 ∧ ∀ g ∈ r, g.closed0 = true) :
    Fp Try.prog 40 [.ownf 0 0 n N, .int .i64 i, .int .i64 j] [] [Y] (.ownf 0 0 (n - 1) N, [], [some (((Y.take n).eraseIdx i ++ [zRow]) ++ Y.drop n)]) := by
  refine Fp.of_awp Try.func40 rfl (by kernel_rfl) (Nat.le_of_ble_eq_true rfl) ?_
  have f0 : ∀ r ∈ Y, r.length = Try.prog.cellsOf 42 := by rw [own_cells]; exact fun r hr => (hx r hr).1
  have f2 : ((i : Int) == j) = false := by simp; omega
  have g4 : okRows (Try.prog.cellsOf 42) ((Y.drop (0 + j.toNat)).take (n - j.toNat)) = true := by
    rw [own_cells]; exact ok_sub hx fun r hr => List.mem_of_mem_drop (List.mem_of_mem_take hr)
  have g6 : ((Y.drop (0 + j.toNat)).take (n - j.toNat)).length = n - j.toNat := by rw [List.length_take, List.length_drop]; omega
  repeat' (conv => whnf
           first
           | (refine And.intro (Or.inl (by kernel_rfl)) ?_)
           | (refine And.intro (by kernel_rfl) ?_)
           | (refine And.intro ⟨by kernel_rfl, by kernel_rfl⟩ ?_)
           | (refine ⟨⟨by omega, by omega, by omega, by omega⟩, ?_⟩)
           | (refine cond_0 f2 ?_)
           | (refine ⟨⟨by omega, by omega, by omega, by omega, f0⟩, ?_⟩)
           | (refine ⟨⟨by omega, by omega, by omega, by omega, f0⟩, ?_⟩)
           | (refine ⟨by omega, ?_⟩)
           | (refine cond_1 g4 ?_)
           | (refine ⟨⟨by omega, by omega, fits 168 own_bytes (by omega), f0⟩, ?_⟩)
           | (refine cond_f ?_ ?_)
           | (refine ⟨_, ⟨by decide, rfl⟩, ?_⟩)
           | (refine cond_i (fun h => ?_) (fun h => ?_)))
  all_goals (conv => whnf)
  rw [g6]
  have e8 : blitR Y (0 + 0 + ((i : Int).toNat - 0)) ((Y.drop (0 + j.toNat)).take (n - j.toNat)) = (Y.take n).eraseIdx i ++ Y.drop (n - 1) := by
    unfold blitR
    rw [g6, show 0 + 0 + ((i : Int).toNat - 0) = i from by omega, show 0 + j.toNat = i + 1 from by omega, show n - j.toNat = n - (i + 1) from by omega, show i + (n - (i + 1)) = n - 1 from by omega, List.eraseIdx_eq_take_drop_succ, List.take_take, Nat.min_eq_left (by omega), List.drop_take]
  generalize hB : blitR _ _ _ = B1
  have hB1 : B1 = (Y.take n).eraseIdx i ++ Y.drop (n - 1) := hB.symm.trans e8
  clear e8 hB
  have g7 : ((Y.take n).eraseIdx i).length = n - 1 := by rw [List.length_eraseIdx_of_lt (by rw [List.length_take]; omega), List.length_take]; omega
  have g1 : ∀ r ∈ B1, r.length = Try.prog.cellsOf 42 := by
    rw [hB1]
    intro r hr
    rcases List.mem_append.1 hr with hr | hr
    · exact f0 r (List.mem_of_mem_take (List.mem_of_mem_eraseIdx hr))
    · exact f0 r (List.mem_of_mem_drop hr)
  have g2 : B1.length = N := by rw [hB1, List.length_append, g7, List.length_drop]; omega
  refine ⟨⟨by omega, by omega, by omega, by omega, g1⟩, ?_⟩
  repeat' (conv => whnf
           first
           | (refine And.intro (Or.inl (by kernel_rfl)) ?_)
           | (refine And.intro (by kernel_rfl) ?_)
           | (refine And.intro ⟨by kernel_rfl, by kernel_rfl⟩ ?_)
           | (refine ⟨⟨by omega, g1⟩, ?_⟩)
           | (refine cond_f ?_ ?_)
           | (refine ⟨_, ⟨by decide, rfl⟩, ?_⟩)
           | (refine cond_i (fun h => ?_) (fun h => ?_)))
  all_goals (conv => whnf)
  rw [show (i : Int).toNat - 0 + (n - j.toNat) = n - 1 from by omega, show (n : Int).toNat - (((n - 1 : Nat) : Int)).toNat = 1 from by omega, show 0 + 0 + (((n - 1 : Nat) : Int)).toNat = n - 1 from by omega, show n - 1 + 1 = n from by omega]
  have h1 : B1.take (n - 1) = (Y.take n).eraseIdx i := by rw [hB1]; exact List.take_left' g7
  have h2 : B1.drop n = Y.drop n := by
    rw [hB1, List.drop_append, List.drop_eq_nil_of_le (by omega), g7, List.nil_append, List.drop_drop]
    congr 1; omega
  rw [h1, h2]
  rfl
theorem slices_Delete (X : List (List G)) (n i : Nat) (j : Int) (hj : j = i + 1) (hn : n ≤ X.length) (hi : i < n) (hs : n ≤ 40) (hx : ∀ r ∈ X, r.length = 19 ∧ ∀ g ∈ r, g.closed0 = true) :
    Fp Try.prog 40 [.own 0 0 n, .int .i64 i, .int .i64 j] [] [X] (.own 0 0 (n - 1), [], [some ((X.take n).eraseIdx i ++ [zRow])]) := by
  refine Fp.ownf (sz := 19) (by intro e; subst e; simp at hn; omega) (fun r hr => (hx r hr).1) fun S N hS hN => ?_
  have hx' : ∀ r ∈ X ++ S, r.length = 19 ∧ ∀ g ∈ r, g.closed0 = true := fun r hr => by
    rcases List.mem_append.1 hr with hr | hr
    · exact hx r hr
    · exact hS r hr
  have hN' := hN
  rw [List.length_append] at hN'
  have h := delete_in (X ++ S) n i N j hj hN (by omega) hi hs hx'
  rw [List.take_append_of_le_length hn] at h
  exact Fp.cut (g0 := .ownf 0 0 (n - 1) N) (ys := (X ++ S).drop n) (by simp) rfl h
end Go.Proofs.Ytcihkmnolagdlaa.Cn
namespace Go.Proofs.Ytcihkmnolagdlaa.Cn
open Go Go.Proofs Go.Proofs.Ytcihkmnolagdlaa.Av Go.Proofs.Ytcihkmnolagdlaa.Sp
set_option linter.unusedVariables false
set_option linter.unusedSimpArgs false
set_option maxRecDepth 100000
attribute [local irreducible] Fv Fp

theorem slices_Clone (l : List Sp.Call) (hs : l.length ≤ 31) : Fp Try.prog 43 [.sl (l.map Call.g)] [] [] (.own 0 0 l.length, [], [some (l.map Call.g)]) := by
  cases l with
  | nil =>
    refine Fp.nilCases (Fp.none0 (g0 := .nils) (fun _ _ _ => nils_room) ?_) ?_
    · refine Fp.of_awp Try.func43 rfl (by kernel_rfl) (Nat.le_of_ble_eq_true rfl) ?_
      repeat' (conv => whnf
               first
               | (refine And.intro (Or.inl (by kernel_rfl)) ?_)
               | (refine And.intro (by kernel_rfl) ?_)
               | (refine And.intro ⟨by kernel_rfl, by kernel_rfl⟩ ?_)
               | (refine cond_f ?_ ?_)
               | (refine ⟨_, ⟨by decide, rfl⟩, ?_⟩)
               | (refine cond_i (fun h => ?_) (fun h => ?_)))
      all_goals (conv => whnf)
      all_goals rfl
    · refine Fp.of_awp Try.func43 rfl (by kernel_rfl) (Nat.le_of_ble_eq_true rfl) ?_
      repeat' (conv => whnf
               first
               | (refine And.intro (Or.inl (by kernel_rfl)) ?_)
               | (refine And.intro (by kernel_rfl) ?_)
               | (refine And.intro ⟨by kernel_rfl, by kernel_rfl⟩ ?_)
               | (refine ⟨fits 104 (by kernel_rfl) (by simp), ?_⟩)
               | (refine cond_f ?_ ?_)
               | (refine ⟨_, ⟨by decide, rfl⟩, ?_⟩)
               | (refine cond_i (fun h => ?_) (fun h => ?_)))
      all_goals (conv => whnf)
      all_goals rfl
  | cons c l =>
    have h1 : okRows (Try.prog.cellsOf 75) ((c :: l).map Call.g) = true := ok_map 13 (by kernel_rfl) (fun _ => rfl) (fun _ => rfl)
    refine Fp.of_awp Try.func43 rfl (by kernel_rfl) (Nat.le_of_ble_eq_true rfl) ?_
    have h2 : (2 * ((c :: l).map Call.g).length + 1024) * 104 ≤ 281474976710656 := by rw [List.length_map]; omega
    repeat' (conv => whnf
             first
             | (refine And.intro (Or.inl (by kernel_rfl)) ?_)
             | (refine And.intro (by kernel_rfl) ?_)
             | (refine And.intro ⟨by kernel_rfl, by kernel_rfl⟩ ?_)
             | (refine cond_1 h1 ?_)
             | (refine ⟨fits 104 (by kernel_rfl) h2, ?_⟩)
             | (refine cond_f ?_ ?_)
             | (refine ⟨_, ⟨by decide, rfl⟩, ?_⟩)
             | (refine cond_i (fun h => ?_) (fun h => ?_)))
    all_goals (conv => whnf)
    all_goals (simp only [List.length_map]; rfl)
theorem owner_Clone (o : Owner) (hs : o.calls.length ≤ 31) : Fp Try.prog 28 [.agg o.g] [] [] (.agg (o.gw (.own 0 0 o.calls.length)), [], [some (o.calls.map Call.g)]) := by
  refine Fp.of_awp Try.func28 rfl (by kernel_rfl) (Nat.le_of_ble_eq_true rfl) ?_
  repeat' (conv => whnf
           first
           | (refine And.intro (Or.inl (by kernel_rfl)) ?_)
           | (refine And.intro (by kernel_rfl) ?_)
           | (refine And.intro ⟨by kernel_rfl, by kernel_rfl⟩ ?_)
           | (refine Or.inr ⟨_, slices_Clone o.calls hs, ?_⟩)
           | (refine cond_f ?_ ?_)
           | (refine ⟨_, ⟨by decide, rfl⟩, ?_⟩)
           | (refine cond_i (fun h => ?_) (fun h => ?_)))
  all_goals (conv => whnf)
  all_goals rfl
theorem findI_hit {l : List Sp.Call} {d : Sp.Id} {k : Nat} (hk : k < l.length) (hI : findI (l.take k) d = -1) (h : l[k].id = d) : findI l d = k := by
  unfold findI at *
  have e : l.findIdx? (fun c => c.id == d) = some k := by
    rw [List.findIdx?_eq_some_iff_getElem]
    refine ⟨hk, by simp [h], fun j hj => ?_⟩
    cases hf : (l.take k).findIdx? (fun c => c.id == d) with
    | some i => rw [hf] at hI; simp at hI
    | none =>
      rw [List.findIdx?_eq_none_iff] at hf
      have := hf (l[j]) (List.mem_take_iff_getElem.2 ⟨j, by omega, rfl⟩)
      simpa using this
  rw [e]
theorem findI_step {l : List Sp.Call} {d : Sp.Id} {k : Nat} (hk : k < l.length) (hI : findI (l.take k) d = -1) (h : ¬ l[k].id = d) : findI (l.take (k + 1)) d = -1 := by
  unfold findI at *
  cases hf : (l.take k).findIdx? (fun c => c.id == d) with
  | some i => rw [hf] at hI; simp at hI
  | none =>
    have e : (l.take (k + 1)).findIdx? (fun c => c.id == d) = none := by
      rw [List.findIdx?_eq_none_iff] at hf ⊢
      intro x hx
      rw [take_at hk, List.mem_append] at hx
      rcases hx with hx | hx
      · exact hf x hx
      · simp at hx; subst hx; simpa using h
    rw [e]
end Go.Proofs.Ytcihkmnolagdlaa.Cn
namespace Go.Proofs.Ytcihkmnolagdlaa.Cn
open Go Go.Proofs Go.Proofs.Ytcihkmnolagdlaa.Av Go.Proofs.Ytcihkmnolagdlaa.Sp
set_option linter.unusedVariables false
set_option linter.unusedSimpArgs false
set_option maxRecDepth 100000
attribute [local irreducible] Fv Fp

theorem own_app1 {α : Type} {l : List α} {R : α → List G} {x : List G} : ((l.map R ++ [x]).drop 0).take (l.length + [x].length) = l.map R ++ [x] := by rw [List.drop_zero]; exact List.take_of_length_le (by simp)
theorem own_set1 {α : Type} {l : List α} {R : α → List G} {x : List G} {i : Nat} : (((l.map R).set (0 + (i : Int).toNat) x).drop 0).take l.length = (l.map R).set i x := by
  rw [List.drop_zero, List.take_of_length_le (by simp), Nat.zero_add, Int.toNat_natCast]
end Go.Proofs.Ytcihkmnolagdlaa.Cn
namespace Go.Proofs.Ytcihkmnolagdlaa.Cn
open Go Go.Proofs Go.Proofs.Ytcihkmnolagdlaa.Av Go.Proofs.Ytcihkmnolagdlaa.Sp
set_option linter.unusedVariables false
set_option linter.unusedSimpArgs false
set_option maxRecDepth 100000
attribute [local irreducible] Fv Fp

set_option maxHeartbeats 4000000 in
theorem slices_Equal (l m : List Sp.Call) (hs : l.length < 4611686018427387904) : Fv Try.prog 33 [.sl (l.map Call.g), .sl (m.map Call.g)] (.bool (decide (l = m))) := by
  refine Fv.of_awp Try.func33 rfl (by kernel_rfl) rfl (Nat.le_of_ble_eq_true rfl) ?_
  repeat' (conv => whnf
           first
           | (refine And.intro (Or.inl (by kernel_rfl)) ?_)
           | (refine And.intro (by kernel_rfl) ?_)
           | (refine And.intro ⟨by kernel_rfl, by kernel_rfl⟩ ?_)
           | (refine cond_f ?_ ?_)
           | (refine ⟨_, ⟨by decide, rfl⟩, ?_⟩)
           | (refine cond_i (fun h => ?_) (fun h => ?_)))
  all_goals (conv => whnf)
  · refine bool_eq ?_
    simp only [List.length_map, bne_iff_ne, ne_eq] at h
    rw [eq_comm, decide_eq_false_iff_not]
    rintro rfl
    exact h rfl
  · simp only [List.length_map, bne_eq_false_iff_eq] at h
    have hl : l.length = m.length := by omega
    refine Has.each [0, 1, 12, 13] [] l.length (fun k (_ : Unit) => l.take k = m.take k) (fun _ i =>
      St.of 26 [(0, .sl (l.map Call.g)), (1, .sl (m.map Call.g)), (12, .int .i64 ((l.map Call.g).length : Nat)), (13, .int .i64 i)] [] []) ⟨(), _, rfl, by simp, rfl⟩ (fun k _ hk hI => ?_) (fun _ hI => ?_)
    · have hk2 : k < m.length := by omega
      refine awp_go ?_
      repeat' (conv => whnf
               first
               | (refine And.intro (Or.inl (by kernel_rfl)) ?_)
               | (refine And.intro (by kernel_rfl) ?_)
               | (refine And.intro ⟨by kernel_rfl, by kernel_rfl⟩ ?_)
               | (refine cond_1 (lt_at hk) ?_)
               | (refine ⟨_, row_at hk, ?_⟩)
               | (refine ⟨_, row_at hk2, ?_⟩)
               | (refine cond_f ?_ ?_)
               | (refine ⟨_, ⟨by decide, rfl⟩, ?_⟩)
               | (refine cond_i (fun h => ?_) (fun h => ?_)))
      all_goals (conv => whnf)
      all_goals simp only [call_eqB, Bool.not_eq_true', Bool.not_eq_false', decide_eq_true_eq, decide_eq_false_iff_not] at h
      · refine bool_eq ?_
        rw [eq_comm, decide_eq_false_iff_not]
        rintro rfl
        exact h rfl
      · exact ⟨(), _, rfl, by rw [take_at hk, take_at hk2, hI, h], up1 hk hs⟩
    · refine awp_go ?_
      repeat' (conv => whnf
               first
               | (refine And.intro (Or.inl (by kernel_rfl)) ?_)
               | (refine And.intro (by kernel_rfl) ?_)
               | (refine And.intro ⟨by kernel_rfl, by kernel_rfl⟩ ?_)
               | (refine cond_0 lt_end ?_)
               | (refine cond_f ?_ ?_)
               | (refine ⟨_, ⟨by decide, rfl⟩, ?_⟩)
               | (refine cond_i (fun h => ?_) (fun h => ?_)))
      all_goals (conv => whnf)
      all_goals
        have he := take_eq_all hl hI
        refine bool_eq ?_
        simp [he]
set_option maxHeartbeats 4000000 in
theorem owner_Same (a b : Owner) (hs : a.calls.length < 4611686018427387904) : Fv Try.prog 15 [.agg a.g, .agg b.g] (.bool (decide (a = b))) := by
  refine Fv.of_awp Try.func15 rfl (by kernel_rfl) rfl (Nat.le_of_ble_eq_true rfl) ?_
  repeat' (conv => whnf
           first
           | (refine And.intro (Or.inl (by kernel_rfl)) ?_)
           | (refine And.intro (by kernel_rfl) ?_)
           | (refine And.intro ⟨by kernel_rfl, by kernel_rfl⟩ ?_)
           | (refine Or.inl ⟨_, slices_Equal a.calls b.calls hs, ?_⟩)
           | (refine ⟨_, slices_Equal a.calls b.calls hs, ?_⟩)
           | (refine cond_f ?_ ?_)
           | (refine ⟨_, ⟨by decide, rfl⟩, ?_⟩)
           | (refine cond_i (fun h => ?_) (fun h => ?_)))
  all_goals (conv => whnf)
  all_goals
    simp only [id_eqB, key_eqC, beq_iff_eq, beq_eq_false_iff_ne, ne_eq, decide_eq_true_eq, decide_eq_false_iff_not] at *
    refine bool_eq ?_
    rw [Bool.eq_iff_iff]
    simp [owner_ext, sameH, *]
theorem ref23_Find (o : Owner) (d : Sp.Id) (hs : o.calls.length < 4611686018427387904) : Fv Try.prog 34 [.agg o.g, .agg d.g] (.int .i64 (findI o.calls d)) := by
  refine Fv.of_awp Try.func34 rfl (by kernel_rfl) rfl (Nat.le_of_ble_eq_true rfl) ?_
  repeat' (conv => whnf
           first
           | (refine And.intro (Or.inl (by kernel_rfl)) ?_)
           | (refine And.intro (by kernel_rfl) ?_)
           | (refine And.intro ⟨by kernel_rfl, by kernel_rfl⟩ ?_)
           | (refine cond_f ?_ ?_)
           | (refine ⟨_, ⟨by decide, rfl⟩, ?_⟩)
           | (refine cond_i (fun h => ?_) (fun h => ?_)))
  all_goals (conv => whnf)
  refine Has.each [2, 3, 5] [] o.calls.length (fun k (_ : Unit) => findI (o.calls.take k) d = -1) (fun _ i =>
    St.of 22 [(2, .ptr 2 0), (3, .ptr 3 0), (5, .int .i64 i)] [(2, o.g), (3, d.g)] []) ⟨(), _, rfl, rfl, rfl⟩ (fun k _ hk hI => ?_) (fun _ hI => ?_)
  · refine awp_go ?_
    repeat' (conv => whnf
             first
             | (refine And.intro (Or.inl (by kernel_rfl)) ?_)
             | (refine And.intro (by kernel_rfl) ?_)
             | (refine And.intro ⟨by kernel_rfl, by kernel_rfl⟩ ?_)
             | (refine cond_1 (lt_at hk) ?_)
             | (refine ⟨_, row_at hk, ?_⟩)
             | (refine cond_f ?_ ?_)
             | (refine ⟨_, ⟨by decide, rfl⟩, ?_⟩)
             | (refine cond_i (fun h => ?_) (fun h => ?_)))
    all_goals (conv => whnf)
    all_goals simp only [id_eqB, decide_eq_true_eq, decide_eq_false_iff_not] at h
    · rw [findI_hit hk hI h]
    · exact ⟨(), _, rfl, findI_step hk hI h, up1 hk hs⟩
  · rw [List.take_length] at hI
    rw [hI]
    refine awp_go ?_
    repeat' (conv => whnf
             first
             | (refine And.intro (Or.inl (by kernel_rfl)) ?_)
             | (refine And.intro (by kernel_rfl) ?_)
             | (refine And.intro ⟨by kernel_rfl, by kernel_rfl⟩ ?_)
             | (refine cond_0 lt_end ?_)
             | (refine cond_f ?_ ?_)
             | (refine ⟨_, ⟨by decide, rfl⟩, ?_⟩)
             | (refine cond_i (fun h => ?_) (fun h => ?_)))
    all_goals (conv => whnf)
    all_goals rfl
end Go.Proofs.Ytcihkmnolagdlaa.Cn
namespace Go.Proofs.Ytcihkmnolagdlaa.Cn
open Go Go.Proofs Go.Proofs.Ytcihkmnolagdlaa.Av Go.Proofs.Ytcihkmnolagdlaa.Sp
set_option linter.unusedVariables false
set_option linter.unusedSimpArgs false
set_option maxRecDepth 100000
attribute [local irreducible] Fv Fp

theorem own_round {α : Type} {m : List α} {R : α → List G} {k : Nat} (hk : k < m.length) {x : List G} (e : R m[k] = x) : (((m.take k).map R).drop 0).take k ++ [x] = (m.take (k + 1)).map R := by rw [← e]; exact own_app hk
end Go.Proofs.Ytcihkmnolagdlaa.Cn
namespace Go.Proofs.Ytcihkmnolagdlaa.Cn
open Go Go.Proofs Go.Proofs.Ytcihkmnolagdlaa.Av Go.Proofs.Ytcihkmnolagdlaa.Sp
set_option linter.unusedVariables false
set_option linter.unusedSimpArgs false
set_option maxRecDepth 100000
attribute [local irreducible] Fv Fp

theorem owner_CloneV (o : Owner) (hs : o.calls.length ≤ 31) : Fv Try.prog 28 [.agg o.g] (.agg o.g) := by
  refine Fv.of_awp Try.func28 rfl (by kernel_rfl) rfl (Nat.le_of_ble_eq_true rfl) ?_
  repeat' (conv => whnf
           first
           | (refine And.intro (Or.inl (by kernel_rfl)) ?_)
           | (refine And.intro (by kernel_rfl) ?_)
           | (refine And.intro ⟨by kernel_rfl, by kernel_rfl⟩ ?_)
           | (refine Or.inr ⟨_, slices_Clone o.calls hs, ?_⟩)
           | (refine ⟨own_le1, ?_⟩)
           | (rw [own_all1])
           | (refine cond_f ?_ ?_)
           | (refine ⟨_, ⟨by decide, rfl⟩, ?_⟩)
           | (refine cond_i (fun h => ?_) (fun h => ?_)))
  all_goals (conv => whnf)
  all_goals rfl
theorem withC_len (l : List Sp.Call) (c : Sp.Call) : (withC l c).length ≤ l.length + 1 := by
  unfold withC
  split <;> simp
end Go.Proofs.Ytcihkmnolagdlaa.Cn
namespace Go.Proofs.Ytcihkmnolagdlaa.Cn
open Go Go.Proofs Go.Proofs.Ytcihkmnolagdlaa.Av Go.Proofs.Ytcihkmnolagdlaa.Sp
set_option linter.unusedVariables false
set_option linter.unusedSimpArgs false
set_option linter.unusedSectionVars false
set_option maxRecDepth 100000
attribute [local irreducible] Fv Fp

def okC (l : List Sp.Call) : Prop := l.length * 104 ≤ 140737488351232
theorem okC_lt {l : List Sp.Call} (h : okC l) : l.length < 4611686018427387904 := by unfold okC at h; omega
theorem okC_10 {l : List Sp.Call} (h : l.length ≤ 10) : okC l := by unfold okC; omega
theorem app5 {α : Type} {P : Program} {e : TypeId} {l : List α} {R : α → List G} {k : Nat} {r : List G} (sz b : Nat) (hk : k ≤ l.length) (hc : P.cellsOf e = sz) (hb : P.bytesOf e = b) (hR : ∀ x, (R x).length = sz) (hf : (5 * (k + 1) + 4096) * b ≤ 1125899906842624) :
    0 + k ≤ ((l.take k).map R).length ∧ (0 < k + [r].length ∨ (l.take k).map R = []) ∧ fitsB P e (k + [r].length) ∧ ∀ r ∈ (l.take k).map R, r.length = P.cellsOf e :=
  ⟨by simp; omega, .inl (by simp), fits5 b hb hf, fun r hr => by obtain ⟨x, _, rfl⟩ := List.mem_map.1 hr; rw [hc]; exact hR x⟩
theorem slices_CloneB (l : List Sp.Call) (hs : okC l) : Fp Try.prog 43 [.sl (l.map Call.g)] [] [] (.own 0 0 l.length, [], [some (l.map Call.g)]) := by
  cases l with
  | nil => exact slices_Clone [] (by simp)
  | cons c l =>
    unfold okC at hs
    have h1 : okRows (Try.prog.cellsOf 75) ((c :: l).map Call.g) = true := ok_map 13 (by kernel_rfl) (fun _ => rfl) (fun _ => rfl)
    refine Fp.of_awp Try.func43 rfl (by kernel_rfl) (Nat.le_of_ble_eq_true rfl) ?_
    have h2 : (5 * ((c :: l).map Call.g).length + 4096) * 104 ≤ 1125899906842624 := by rw [List.length_map]; omega
    repeat' (conv => whnf
             first
             | (refine And.intro (Or.inl (by kernel_rfl)) ?_)
             | (refine And.intro (by kernel_rfl) ?_)
             | (refine And.intro ⟨by kernel_rfl, by kernel_rfl⟩ ?_)
             | (refine cond_1 h1 ?_)
             | (refine ⟨fits5 104 (by kernel_rfl) h2, ?_⟩)
             | (refine cond_f ?_ ?_)
             | (refine ⟨_, ⟨by decide, rfl⟩, ?_⟩)
             | (refine cond_i (fun h => ?_) (fun h => ?_)))
    all_goals (conv => whnf)
    all_goals (simp only [List.length_map]; rfl)
theorem owner_CloneB (o : Owner) (hs : okC o.calls) : Fv Try.prog 28 [.agg o.g] (.agg o.g) := by
  refine Fv.of_awp Try.func28 rfl (by kernel_rfl) rfl (Nat.le_of_ble_eq_true rfl) ?_
  repeat' (conv => whnf
           first
           | (refine And.intro (Or.inl (by kernel_rfl)) ?_)
           | (refine And.intro (by kernel_rfl) ?_)
           | (refine And.intro ⟨by kernel_rfl, by kernel_rfl⟩ ?_)
           | (refine Or.inr ⟨_, slices_CloneB o.calls hs, ?_⟩)
           | (refine ⟨own_le1, ?_⟩)
           | (rw [own_all1])
           | (refine cond_f ?_ ?_)
           | (refine ⟨_, ⟨by decide, rfl⟩, ?_⟩)
           | (refine cond_i (fun h => ?_) (fun h => ?_)))
  all_goals (conv => whnf)
  all_goals rfl
theorem law23_MineB (o : Owner) (hs : okC o.calls) : Fv Try.prog 11 [.agg o.g] (.agg o.g) := by
  unfold okC at hs
  refine Fv.of_awp Try.func11 rfl (by kernel_rfl) rfl (Nat.le_of_ble_eq_true rfl) ?_
  repeat' (conv => whnf
           first
           | (refine And.intro (Or.inl (by kernel_rfl)) ?_)
           | (refine And.intro (by kernel_rfl) ?_)
           | (refine And.intro ⟨by kernel_rfl, by kernel_rfl⟩ ?_)
           | (refine cond_f ?_ ?_)
           | (refine ⟨_, ⟨by decide, rfl⟩, ?_⟩)
           | (refine cond_i (fun h => ?_) (fun h => ?_)))
  all_goals (conv => whnf)
  refine Has.own0B 3 18 42 rfl rfl rfl ?_
  refine Has.each [1, 2, 3, 4] [] o.calls.length (OwnI Call.g o.calls) (fun b i =>
    St.of 45 [(1, .ptr 1 0), (2, .ptr 2 0), (3, .ptr 3 0), (4, .int .i64 i)] [(1, o.g), (2, zOwner.gw .nils), (3, o.gw (.own 42 0 b.1))] [(42, b.2)]) ⟨(0, []), _, rfl, ⟨rfl, rfl⟩, rfl⟩ (fun k b hk hI => ?_) (fun b hI => ?_)
  · obtain ⟨n, xs⟩ := b
    obtain ⟨rfl, rfl⟩ : n = k ∧ xs = _ := hI
    refine awp_go ?_
    repeat' (conv => whnf
             first
             | (refine And.intro (Or.inl (by kernel_rfl)) ?_)
             | (refine And.intro (by kernel_rfl) ?_)
             | (refine And.intro ⟨by kernel_rfl, by kernel_rfl⟩ ?_)
             | (refine cond_1 (lt_at hk) ?_)
             | (refine ⟨_, row_at hk, ?_⟩)
             | (refine Or.inl ⟨_, law23_One o.calls[n], ?_⟩)
             | (refine ⟨_, law23_One o.calls[n], ?_⟩)
             | (refine ⟨app5 13 104 (Nat.le_of_lt hk) (by kernel_rfl) (by kernel_rfl) (fun _ => rfl) (by omega), ?_⟩)
             | (refine cond_f ?_ ?_)
             | (refine ⟨_, ⟨by decide, rfl⟩, ?_⟩)
             | (refine cond_i (fun h => ?_) (fun h => ?_)))
    all_goals (conv => whnf)
    exact ⟨(_, _), _, rfl, ⟨rfl, own_app (R := Call.g) hk⟩, up1 hk (by omega)⟩
  · obtain ⟨n, xs⟩ := b
    obtain ⟨rfl, rfl⟩ : n = _ ∧ xs = _ := hI
    refine awp_go ?_
    repeat' (conv => whnf
             first
             | (refine And.intro (Or.inl (by kernel_rfl)) ?_)
             | (refine And.intro (by kernel_rfl) ?_)
             | (refine And.intro ⟨by kernel_rfl, by kernel_rfl⟩ ?_)
             | (refine cond_0 lt_end ?_)
             | (refine ⟨own_le, ?_⟩)
             | (refine cond_f ?_ ?_)
             | (refine ⟨_, ⟨by decide, rfl⟩, ?_⟩)
             | (refine cond_i (fun h => ?_) (fun h => ?_)))
    all_goals (conv => whnf)
    simp only [own_all]
    rfl
end Go.Proofs.Ytcihkmnolagdlaa.Cn
namespace Go.Proofs.Ytcihkmnolagdlaa.Cn
open Go Go.Proofs Go.Proofs.Ytcihkmnolagdlaa.Av Go.Proofs.Ytcihkmnolagdlaa.Sp
set_option linter.unusedVariables false
set_option linter.unusedSimpArgs false
set_option linter.unusedSectionVars false
set_option maxRecDepth 100000
attribute [local irreducible] Fv Fp

theorem eqT_id (a q : Sp.Id) : eqT Try.prog 12 30 a.g q.g = some (decide (a = q)) := by
  rw [← id_eqB]; rfl
noncomputable def idF (a : Sp.Id) (r : List G) : Bool := (eqT Try.prog 12 30 a.g (r.take 3)).getD false
theorem mrow_take (p : Sp.Id × Sp.Key) : (mrow p).take 3 = p.1.g := rfl
theorem mrow_drop (p : Sp.Id × Sp.Key) : (mrow p).drop 3 = p.2.g := rfl
theorem idF_eq (a : Sp.Id) (p : Sp.Id × Sp.Key) : idF a (mrow p) = decide (a = p.1) := by unfold idF; rw [mrow_take, eqT_id]; rfl
theorem id_look (a : Sp.Id) (M : List (Sp.Id × Sp.Key)) : ∀ r ∈ M.map mrow, eqT Try.prog 12 30 (G.agg a.g).cells (r.take 3) = some (idF a r) := fun r hr => by
  obtain ⟨q, _, rfl⟩ := List.mem_map.1 hr
  rw [idF_eq, mrow_take]; exact eqT_id a q.1
theorem id_put (a : Sp.Id) (M : List (Sp.Id × Sp.Key)) : ∀ r ∈ M.map mrow, eqT Try.prog 12 30 (G.agg a.g).cells (r.take 3) = some (idF a r) ∧ (idF a r = true → r.take 3 = (G.agg a.g).cells) := fun r hr => by
  refine ⟨id_look a M r hr, fun h => ?_⟩
  obtain ⟨q, _, rfl⟩ := List.mem_map.1 hr
  rw [idF_eq] at h
  rw [mrow_take, of_decide_eq_true h]; rfl
theorem hit_id (a : Sp.Id) : ∀ (M : List (Sp.Id × Sp.Key)), hitI (idF a) (M.map mrow) = mhit M a
  | [] => rfl
  | p :: M => by
    unfold List.map hitI
    rw [idF_eq, hit_id a M]
    unfold mhit
    rw [List.findIdx?_cons]
    cases decide (a = p.1) <;> rfl
theorem mget_hit (a : Sp.Id) : ∀ (M : List (Sp.Id × Sp.Key)), mget M a = (mhit M a).bind fun i => (M[i]?).map (·.2)
  | [] => rfl
  | p :: M => by
    unfold mget mhit
    rw [List.findIdx?_cons, List.find?_cons]
    cases h : decide (a = p.1) with
    | true => simp
    | false =>
      have := mget_hit a M
      unfold mget mhit at this
      simp only [Bool.false_eq_true, if_false]
      rw [this]
      cases M.findIdx? (fun p => decide (a = p.1)) with
      | none => rfl
      | some i => simp
theorem look_id (a : Sp.Id) (M : List (Sp.Id × Sp.Key)) : Look (idF a) 3 zKey.g (M.map mrow) ((mget M a).getD zKey).g (mget M a).isSome := by
  have h1 := hit_id a M
  have h2 := mget_hit a M
  cases h : mhit M a with
  | none =>
    rw [h] at h1 h2
    rw [h2]
    exact .inr ⟨h1, rfl, rfl⟩
  | some i =>
    rw [h] at h1 h2
    have hi : i < M.length := by unfold mhit at h; exact (List.findIdx?_eq_some_iff_getElem.1 h).1
    rw [h2]
    simp only [Option.bind_some, List.getElem?_eq_getElem hi, Option.map_some]
    exact .inl ⟨i, mrow M[i], h1, by rw [List.getElem?_map, List.getElem?_eq_getElem hi]; rfl, rfl, rfl⟩
theorem put_id (a : Sp.Id) (k : Sp.Key) (M : List (Sp.Id × Sp.Key)) : mput (idF a) (a.g ++ k.g) (M.map mrow) = (mputM M a k).map mrow := by
  unfold mput mputM
  rw [hit_id]
  cases mhit M a with
  | none => simp only [List.map_append]; rfl
  | some i => simp only [List.map_set]; rfl
theorem del_id (a : Sp.Id) (M : List (Sp.Id × Sp.Key)) : mdel (idF a) (M.map mrow) = (mdelM M a).map mrow := by
  unfold mdel mdelM
  rw [hit_id]
  cases mhit M a with
  | none => rfl
  | some i => simp only [List.eraseIdx_eq_take_drop_succ, List.map_append, List.map_take, List.map_drop]

theorem table_New : Fp Try.prog 7 [] [] [] (.ptr 0 0, [some (tb 0)], [some [], some []]) := by
  refine Fp.none0B ?_
  refine Fp.of_awp Try.func7 rfl (by kernel_rfl) (Nat.le_of_ble_eq_true rfl) ?_
  repeat' (conv => whnf
           first
           | (refine And.intro (Or.inl (by kernel_rfl)) ?_)
           | (refine And.intro (by kernel_rfl) ?_)
           | (refine And.intro ⟨by kernel_rfl, by kernel_rfl⟩ ?_)
           | (refine cond_f ?_ ?_)
           | (refine ⟨_, ⟨by decide, rfl⟩, ?_⟩)
           | (refine cond_i (fun h => ?_) (fun h => ?_)))
  all_goals (conv => whnf)
  all_goals rfl
theorem table_none (n : Nat) (Mr R : List (List G)) : Fp Try.prog 27 [.ptr 0 0] [tb n] [R, Mr] (.bool false, [some (tb n)], [some R, some Mr]) := by
  refine Fp.of_awp Try.func27 rfl (by kernel_rfl) (Nat.le_of_ble_eq_true rfl) ?_
  repeat' (conv => whnf
           first
           | (refine And.intro (Or.inl (by kernel_rfl)) ?_)
           | (refine And.intro (by kernel_rfl) ?_)
           | (refine And.intro ⟨by kernel_rfl, by kernel_rfl⟩ ?_)
           | (refine cond_f ?_ ?_)
           | (refine ⟨_, ⟨by decide, rfl⟩, ?_⟩)
           | (refine cond_i (fun h => ?_) (fun h => ?_)))
  all_goals (conv => whnf)
  all_goals rfl
theorem table_at (T : List Owner) (E Mr : List (List G)) (k : Sp.Key) (hT : rises T) (hs : T.length ≤ 40) : Fp Try.prog 29 [.ptr 0 0, .agg k.g] [tb T.length] [T.map Owner.g ++ E, Mr] (.tup [.int .i64 (posT T k), .bool (hasT T k)], [some (tb T.length)], [some (T.map Owner.g ++ E), some Mr]) := by
  refine Fp.of_awp Try.func29 rfl (by kernel_rfl) (Nat.le_of_ble_eq_true rfl) ?_
  have h1 := table_search T k hT hs
  have h2 : 0 + T.length ≤ (T.map Owner.g ++ E).length := by simp
  have h3 : (((T.map Owner.g ++ E).drop 0).take T.length) = T.map Owner.g := by rw [List.drop_zero]; exact List.take_left' (by simp)
  repeat' (conv => whnf
           first
           | (refine And.intro (Or.inl (by kernel_rfl)) ?_)
           | (refine And.intro (by kernel_rfl) ?_)
           | (refine And.intro ⟨by kernel_rfl, by kernel_rfl⟩ ?_)
           | (refine Or.inl ?_)
           | (refine ⟨h2, ?_⟩)
           | (rw [h3])
           | (refine Or.inl ⟨_, h1, ?_⟩)
           | (refine ⟨_, h1, ?_⟩)
           | (refine cond_f ?_ ?_)
           | (refine ⟨_, ⟨by decide, rfl⟩, ?_⟩)
           | (refine cond_i (fun h => ?_) (fun h => ?_)))
  all_goals (conv => whnf)
  all_goals rfl
set_option maxHeartbeats 4000000 in
theorem table_unlink (o : Owner) (n : Nat) (M : List (Sp.Id × Sp.Key)) (R : List (List G)) (hs : okC o.calls) :
    Fp Try.prog 30 [.ptr 0 0, .agg o.g] [tb n] [R, M.map mrow] (.tup [], [some (tb n)], [some R, some ((unlM M o.key o.calls).map mrow)]) := by
  unfold okC at hs
  refine Fp.of_awp Try.func30 rfl (by kernel_rfl) (Nat.le_of_ble_eq_true rfl) ?_
  repeat' (conv => whnf
           first
           | (refine And.intro (Or.inl (by kernel_rfl)) ?_)
           | (refine And.intro (by kernel_rfl) ?_)
           | (refine And.intro ⟨by kernel_rfl, by kernel_rfl⟩ ?_)
           | (refine cond_f ?_ ?_)
           | (refine ⟨_, ⟨by decide, rfl⟩, ?_⟩)
           | (refine cond_i (fun h => ?_) (fun h => ?_)))
  all_goals (conv => whnf)
  refine Has.each [0, 3, 7, 8, 9] [5] o.calls.length (fun k b => b = (unlM M o.key (o.calls.take k)).map mrow) (fun b i =>
    St.ofP 30 1 2 [(0, .ptr 38 0), (3, .ptr 3 0), (7, .sl (o.calls.map Call.g)), (8, .int .i64 (o.calls.map Call.g).length), (9, .int .i64 i)] [(3, o.g), (38, [.own 38 0 n, .mp 39 3 3])] [(38, R), (39, b)]) ⟨_, _, rfl, rfl, rfl⟩ (fun k b hk hI => ?_) (fun b hI => ?_)
  · subst hI
    have hstep : unlM M o.key (o.calls.take (k + 1)) = unl1 o.key (unlM M o.key (o.calls.take k)) o.calls[k] := by
      unfold unlM; rw [List.take_succ_eq_append_getElem hk, List.foldl_append]; rfl
    generalize unlM M o.key (o.calls.take k) = m at *
    have f1 := row_at (R := Call.g) hk
    have l1 := id_look o.calls[k].id m
    have l2 := look_id o.calls[k].id m
    have e1 := key_eqB ((mget m o.calls[k].id).getD zKey) o.key
    by_cases hc : (mget m o.calls[k].id).getD zKey = o.key
    · rw [decide_eq_true hc] at e1
      rw [unl1, if_pos hc] at hstep
      refine awp_go ?_
      repeat' (conv => whnf
               first
               | (refine And.intro (Or.inl (by kernel_rfl)) ?_)
               | (refine And.intro (by kernel_rfl) ?_)
               | (refine And.intro ⟨by kernel_rfl, by kernel_rfl⟩ ?_)
               | (refine cond_1 (lt_at hk) ?_)
               | (refine ⟨_, f1, ?_⟩)
               | (refine ⟨idF o.calls[k].id, l1, _, _, l2, ?_⟩)
               | (refine cond_1 e1 ?_)
               | (refine ⟨idF o.calls[k].id, l1, ?_⟩)
               | (refine cond_f ?_ ?_)
               | (refine ⟨_, ⟨by decide, rfl⟩, ?_⟩)
               | (refine cond_i (fun h => ?_) (fun h => ?_)))
      all_goals (conv => whnf)
      exact ⟨_, _, rfl, by rw [hstep]; exact del_id _ _, up1 hk (by omega)⟩
    · rw [decide_eq_false hc] at e1
      rw [unl1, if_neg hc] at hstep
      refine awp_go ?_
      repeat' (conv => whnf
               first
               | (refine And.intro (Or.inl (by kernel_rfl)) ?_)
               | (refine And.intro (by kernel_rfl) ?_)
               | (refine And.intro ⟨by kernel_rfl, by kernel_rfl⟩ ?_)
               | (refine cond_1 (lt_at hk) ?_)
               | (refine ⟨_, f1, ?_⟩)
               | (refine ⟨idF o.calls[k].id, l1, _, _, l2, ?_⟩)
               | (refine cond_0 e1 ?_)
               | (refine cond_f ?_ ?_)
               | (refine ⟨_, ⟨by decide, rfl⟩, ?_⟩)
               | (refine cond_i (fun h => ?_) (fun h => ?_)))
      all_goals (conv => whnf)
      exact ⟨_, _, rfl, by rw [hstep], up1 hk (by omega)⟩
  · subst hI
    rw [List.take_length]
    refine awp_go ?_
    repeat' (conv => whnf
             first
             | (refine And.intro (Or.inl (by kernel_rfl)) ?_)
             | (refine And.intro (by kernel_rfl) ?_)
             | (refine And.intro ⟨by kernel_rfl, by kernel_rfl⟩ ?_)
             | (refine cond_0 lt_end ?_)
             | (refine cond_f ?_ ?_)
             | (refine ⟨_, ⟨by decide, rfl⟩, ?_⟩)
             | (refine cond_i (fun h => ?_) (fun h => ?_)))
    all_goals (conv => whnf)
    all_goals rfl
end Go.Proofs.Ytcihkmnolagdlaa.Cn
namespace Go.Proofs.Ytcihkmnolagdlaa.Cn
open Go Go.Proofs Go.Proofs.Ytcihkmnolagdlaa.Av Go.Proofs.Ytcihkmnolagdlaa.Sp
set_option linter.unusedVariables false
set_option linter.unusedSimpArgs false
set_option linter.unusedSectionVars false
set_option maxRecDepth 100000
attribute [local irreducible] Fv Fp

def okT (t : Tab) : Prop := rises t.T ∧ okE t.E ∧ ∀ x ∈ t.T, okC x.calls
theorem r_len (t : Tab) (h : okE t.E) : ∀ r ∈ t.r, r.length = 19 ∧ ∀ g ∈ r, g.closed0 = true := fun r hr => by
  rcases List.mem_append.1 hr with hr | hr
  · obtain ⟨x, _, rfl⟩ := List.mem_map.1 hr
    exact ⟨rfl, fun g hg => by
      have : x.g.all G.closed0 = true := rfl
      exact List.all_eq_true.1 this g hg⟩
  · exact h r hr
theorem r_at {t : Tab} {p : Nat} (h : p < t.T.length) : t.r[0 + (p : Int).toNat]? = some t.T[p].g := by
  unfold Tab.r
  rw [Nat.zero_add, Int.toNat_natCast, List.getElem?_append_left (by simpa using h), List.getElem?_map, List.getElem?_eq_getElem h]; rfl
set_option maxHeartbeats 8000000 in
theorem put_found (t : Tab) (o : Owner) (ht : okT t) (ho : okC o.calls) (hs : t.T.length ≤ 40) (hp : posT t.T o.key < t.T.length) (hk : t.T[posT t.T o.key].key = o.key) :
    Fp Try.prog 10 [.ptr 0 0, .agg o.g] [tb t.T.length] [t.r, t.M.map mrow] (.int .i64 0, [some (tb t.T.length)], [some (t.r.set (posT t.T o.key) o.g), some ((lnkM (unlM t.M o.key t.T[posT t.T o.key].calls) o.key o.calls).map mrow)]) := by
    refine Fp.of_awp Try.func10 rfl (by kernel_rfl) (Nat.le_of_ble_eq_true rfl) ?_
    have c1 := table_none t.T.length (t.M.map mrow) t.r
    have c2 := owner_CloneB o ho
    have c3 := table_at t.T t.E (t.M.map mrow) o.key ht.1 hs
    have e1 : hasT t.T o.key = true := by unfold hasT; rw [List.getElem?_eq_getElem hp]; exact decide_eq_true hk
    rw [e1] at c3
    have c4 := table_unlink t.T[posT t.T o.key] t.T.length t.M t.r (ht.2.2 _ (List.getElem_mem hp))
    rw [hk] at c4
    have hat := r_at (t := t) hp
    generalize posT t.T o.key = p at *
    generalize t.T[p] = x at *
    have hlen : t.T.length ≤ t.r.length := by unfold Tab.r; simp
    change Fp Try.prog 29 _ _ [t.r, t.M.map mrow] (_, _, [some t.r, _]) at c3
    have h3 : 0 ≤ (p : Int) ∧ (p : Int) < (t.T.length : Int) ∧ t.r[0 + (p : Int).toNat]? = some x.g := ⟨by omega, by omega, hat⟩
    have h5 : t.r[0 + (p : Int).toNat]? = some x.g ∧ 0 + Try.prog.cellsOf 42 ≤ x.g.length := ⟨hat, by rw [own_cells]; exact Nat.le_refl _⟩
    generalize unlM t.M o.key x.calls = m0 at *
    generalize t.T.length = n0 at *
    generalize t.r = R at *
    generalize t.M.map mrow = Mr at *
    generalize hm0 : m0.map mrow = Mr0 at *
    repeat' (conv => whnf
             first
             | (refine And.intro (Or.inl (by kernel_rfl)) ?_)
             | (refine And.intro (by kernel_rfl) ?_)
             | (refine And.intro ⟨by kernel_rfl, by kernel_rfl⟩ ?_)
             | (refine Or.inr ⟨_, c1, ?_⟩)
             | (refine Or.inl ⟨_, c2, ?_⟩)
             | (refine ⟨_, c2, ?_⟩)
             | (refine Or.inr ⟨_, c3, ?_⟩)
             | (refine ⟨_, h3, ?_⟩)
             | (refine ⟨_, hat, ?_⟩)
             | (refine Or.inr ⟨_, c4, ?_⟩)
             | (refine ⟨_, h3, ?_⟩)
             | (refine ⟨_, h5, ?_⟩)
             | (refine cond_f ?_ ?_)
             | (refine ⟨_, ⟨by decide, rfl⟩, ?_⟩)
             | (refine cond_i (fun h => ?_) (fun h => ?_)))
    all_goals (conv => whnf)

    refine Has.each [0, 3, 4, 49, 50, 51] [8] o.calls.length (fun k b => b = (lnkM m0 o.key (o.calls.take k)).map mrow) (fun b i =>
      St.ofP 64 1 2 [(0, .ptr 72 0), (3, .ptr 3 0), (4, .int .i64 0), (49, .sl (o.calls.map Call.g)), (50, .int .i64 (o.calls.map Call.g).length), (51, .int .i64 i)] [(3, o.g), (72, [.own 72 0 n0, .mp 73 3 3])] [(72, (R.set (0 + (p : Int).toNat) o.g)), (73, b)]) ⟨_, _, rfl, hm0.symm, rfl⟩ (fun k b hk hI => ?_) (fun b hI => ?_)
    · subst hI
      have hstep : lnkM m0 o.key (o.calls.take (k + 1)) = lnk1 o.key (lnkM m0 o.key (o.calls.take k)) o.calls[k] := by
        unfold lnkM; rw [List.take_succ_eq_append_getElem hk, List.foldl_append]; rfl
      generalize lnkM m0 o.key (o.calls.take k) = m at *
      have f1 := row_at (R := Call.g) hk
      have l1 := id_put o.calls[k].id m
      refine awp_go ?_
      repeat' (conv => whnf
               first
               | (refine And.intro (Or.inl (by kernel_rfl)) ?_)
               | (refine And.intro (by kernel_rfl) ?_)
               | (refine And.intro ⟨by kernel_rfl, by kernel_rfl⟩ ?_)
               | (refine cond_1 (lt_at hk) ?_)
               | (refine ⟨_, f1, ?_⟩)
               | (refine ⟨idF o.calls[k].id, l1, ?_⟩)
               | (refine cond_f ?_ ?_)
               | (refine ⟨_, ⟨by decide, rfl⟩, ?_⟩)
               | (refine cond_i (fun h => ?_) (fun h => ?_)))
      all_goals (conv => whnf)
      exact ⟨_, _, rfl, by rw [hstep]; exact put_id _ _ _, up1 hk (okC_lt ho)⟩
    · subst hI
      rw [List.take_length]
      refine awp_go ?_
      repeat' (conv => whnf
               first
               | (refine And.intro (Or.inl (by kernel_rfl)) ?_)
               | (refine And.intro (by kernel_rfl) ?_)
               | (refine And.intro ⟨by kernel_rfl, by kernel_rfl⟩ ?_)
               | (refine cond_0 lt_end ?_)
               | (refine cond_f ?_ ?_)
               | (refine ⟨_, ⟨by decide, rfl⟩, ?_⟩)
               | (refine cond_i (fun h => ?_) (fun h => ?_)))
      all_goals (conv => whnf)
      all_goals (rw [show 0 + (p : Int).toNat = p from by omega]; rfl)
set_option maxHeartbeats 8000000 in
theorem put_new (t : Tab) (o : Owner) (ht : okT t) (ho : okC o.calls) (hs : t.T.length ≤ 40) (hk : hasT t.T o.key = false) :
    Fp Try.prog 10 [.ptr 0 0, .agg o.g] [tb t.T.length] [t.r, t.M.map mrow] (.int .i64 0, [some (tb (t.T.length + 1))], [some ((t.T.map Owner.g).take (posT t.T o.key) ++ o.g :: (t.T.map Owner.g).drop (posT t.T o.key)), some ((lnkM t.M o.key o.calls).map mrow)]) := by
    refine Fp.of_awp Try.func10 rfl (by kernel_rfl) (Nat.le_of_ble_eq_true rfl) ?_
    have c1 := table_none t.T.length (t.M.map mrow) t.r
    have c2 := owner_CloneB o ho
    have c3 := table_at t.T t.E (t.M.map mrow) o.key ht.1 hs
    rw [hk] at c3
    have c4 := slices_Insert t.r t.T.length (posT t.T o.key) o (by unfold Tab.r; simp) (posT_le _ _) hs (r_len t ht.2.1)
    rw [show t.r.take t.T.length = t.T.map Owner.g from List.take_left' (by simp)] at c4
    change Fp Try.prog 29 _ _ [t.r, t.M.map mrow] (_, _, [some t.r, _]) at c3
    generalize (t.T.map Owner.g).take (posT t.T o.key) ++ o.g :: (t.T.map Owner.g).drop (posT t.T o.key) = R0 at *
    generalize posT t.T o.key = p at *
    generalize t.T.length = n0 at *
    generalize t.r = R at *
    generalize hm0 : t.M = m0 at *
    generalize hm1 : m0.map mrow = Mr at *
    repeat' (conv => whnf
             first
             | (refine And.intro (Or.inl (by kernel_rfl)) ?_)
             | (refine And.intro (by kernel_rfl) ?_)
             | (refine And.intro ⟨by kernel_rfl, by kernel_rfl⟩ ?_)
             | (refine Or.inr ⟨_, c1, ?_⟩)
             | (refine Or.inl ⟨_, c2, ?_⟩)
             | (refine ⟨_, c2, ?_⟩)
             | (refine Or.inr ⟨_, c3, ?_⟩)
             | (refine Or.inr ⟨_, c4, ?_⟩)
             | (refine cond_f ?_ ?_)
             | (refine ⟨_, ⟨by decide, rfl⟩, ?_⟩)
             | (refine cond_i (fun h => ?_) (fun h => ?_)))
    all_goals (conv => whnf)

    refine Has.each [0, 3, 4, 49, 50, 51] [8] o.calls.length (fun k b => b = (lnkM m0 o.key (o.calls.take k)).map mrow) (fun b i =>
      St.ofP 64 1 2 [(0, .ptr 72 0), (3, .ptr 3 0), (4, .int .i64 0), (49, .sl (o.calls.map Call.g)), (50, .int .i64 (o.calls.map Call.g).length), (51, .int .i64 i)] [(3, o.g), (72, [.own 72 0 (n0 + 1), .mp 73 3 3])] [(72, R0), (73, b)]) ⟨_, _, rfl, hm1.symm, rfl⟩ (fun k b hk hI => ?_) (fun b hI => ?_)
    · subst hI
      have hstep : lnkM m0 o.key (o.calls.take (k + 1)) = lnk1 o.key (lnkM m0 o.key (o.calls.take k)) o.calls[k] := by
        unfold lnkM; rw [List.take_succ_eq_append_getElem hk, List.foldl_append]; rfl
      generalize lnkM m0 o.key (o.calls.take k) = m at *
      have f1 := row_at (R := Call.g) hk
      have l1 := id_put o.calls[k].id m
      refine awp_go ?_
      repeat' (conv => whnf
               first
               | (refine And.intro (Or.inl (by kernel_rfl)) ?_)
               | (refine And.intro (by kernel_rfl) ?_)
               | (refine And.intro ⟨by kernel_rfl, by kernel_rfl⟩ ?_)
               | (refine cond_1 (lt_at hk) ?_)
               | (refine ⟨_, f1, ?_⟩)
               | (refine ⟨idF o.calls[k].id, l1, ?_⟩)
               | (refine cond_f ?_ ?_)
               | (refine ⟨_, ⟨by decide, rfl⟩, ?_⟩)
               | (refine cond_i (fun h => ?_) (fun h => ?_)))
      all_goals (conv => whnf)
      exact ⟨_, _, rfl, by rw [hstep]; exact put_id _ _ _, up1 hk (okC_lt ho)⟩
    · subst hI
      rw [List.take_length]
      refine awp_go ?_
      repeat' (conv => whnf
               first
               | (refine And.intro (Or.inl (by kernel_rfl)) ?_)
               | (refine And.intro (by kernel_rfl) ?_)
               | (refine And.intro ⟨by kernel_rfl, by kernel_rfl⟩ ?_)
               | (refine cond_0 lt_end ?_)
               | (refine cond_f ?_ ?_)
               | (refine ⟨_, ⟨by decide, rfl⟩, ?_⟩)
               | (refine cond_i (fun h => ?_) (fun h => ?_)))
      all_goals (conv => whnf)
      all_goals rfl
theorem hasT_of {T : List Owner} {k : Sp.Key} {x : Owner} (h : T[posT T k]? = some x) : hasT T k = decide (x.key = k) := by unfold hasT; rw [h]
theorem table_Put (t : Tab) (o : Owner) (ht : okT t) (ho : okC o.calls) (hs : t.T.length ≤ 40) :
    Fp Try.prog 10 [.ptr 0 0, .agg o.g] [tb t.T.length] [t.r, t.M.map mrow] (.int .i64 0, [some (tb (putTab t o).T.length)], [some (putTab t o).r, some ((putTab t o).M.map mrow)]) := by
  have new : hasT t.T o.key = false → putTab t o = ⟨t.T.take (posT t.T o.key) ++ o :: t.T.drop (posT t.T o.key), [], lnkM t.M o.key o.calls⟩ → Fp Try.prog 10 [.ptr 0 0, .agg o.g] [tb t.T.length] [t.r, t.M.map mrow] (.int .i64 0, [some (tb (putTab t o).T.length)], [some (putTab t o).r, some ((putTab t o).M.map mrow)]) := fun h1 h2 => by
    have := put_new t o ht ho hs h1
    rw [h2]
    have hp := posT_le t.T o.key
    rw [show (⟨t.T.take (posT t.T o.key) ++ o :: t.T.drop (posT t.T o.key), [], lnkM t.M o.key o.calls⟩ : Tab).T.length = t.T.length + 1 from by simp; omega,
      show (⟨t.T.take (posT t.T o.key) ++ o :: t.T.drop (posT t.T o.key), [], lnkM t.M o.key o.calls⟩ : Tab).r = (t.T.map Owner.g).take (posT t.T o.key) ++ o.g :: (t.T.map Owner.g).drop (posT t.T o.key) from by unfold Tab.r; simp]
    exact this
  cases h : t.T[posT t.T o.key]? with
  | none =>
    refine new (by unfold hasT; rw [h]) (by unfold putTab; rw [h])
  | some x =>
    by_cases hk : x.key = o.key
    · obtain ⟨hp, hx⟩ := List.getElem?_eq_some_iff.1 h
      have := put_found t o ht ho hs hp (by rw [hx]; exact hk)
      rw [hx] at this
      have e : putTab t o = ⟨t.T.set (posT t.T o.key) o, t.E, lnkM (unlM t.M x.key x.calls) o.key o.calls⟩ := by unfold putTab; rw [h]; simp only; rw [if_pos hk]
      rw [e, show (⟨t.T.set (posT t.T o.key) o, t.E, lnkM (unlM t.M x.key x.calls) o.key o.calls⟩ : Tab).T.length = t.T.length from by simp,
        show (⟨t.T.set (posT t.T o.key) o, t.E, lnkM (unlM t.M x.key x.calls) o.key o.calls⟩ : Tab).r = t.r.set (posT t.T o.key) o.g from by unfold Tab.r; rw [List.set_append_left _ _ (by simpa using hp), List.map_set]]
      rw [hk]
      exact this
    · exact new (by rw [hasT_of h]; exact decide_eq_false hk) (by unfold putTab; rw [h]; simp only; rw [if_neg hk])
end Go.Proofs.Ytcihkmnolagdlaa.Cn
namespace Go.Proofs.Ytcihkmnolagdlaa.Cn
open Go Go.Proofs Go.Proofs.Ytcihkmnolagdlaa.Av Go.Proofs.Ytcihkmnolagdlaa.Sp
set_option linter.unusedVariables false
set_option linter.unusedSimpArgs false
set_option linter.unusedSectionVars false
set_option maxRecDepth 100000
attribute [local irreducible] Fv Fp

set_option maxHeartbeats 4000000 in
theorem get_hit (t : Tab) (k : Sp.Key) (ht : okT t) (hs : t.T.length ≤ 40) (hp : posT t.T k < t.T.length) (hk : t.T[posT t.T k].key = k) :
    Fp Try.prog 12 [.ptr 0 0, .agg k.g] [tb t.T.length] [t.r, t.M.map mrow] (.tup [.agg t.T[posT t.T k].g, .bool true], [some (tb t.T.length)], [some t.r, some (t.M.map mrow)]) := by
  refine Fp.of_awp Try.func12 rfl (by kernel_rfl) (Nat.le_of_ble_eq_true rfl) ?_
  have c1 := table_none t.T.length (t.M.map mrow) t.r
  have c3 := table_at t.T t.E (t.M.map mrow) k ht.1 hs
  have e1 : hasT t.T k = true := by rw [hasT_of (List.getElem?_eq_getElem hp)]; exact decide_eq_true hk
  rw [e1] at c3
  have hl := ht.2.2 _ (List.getElem_mem hp)
  have hat := r_at (t := t) hp
  change Fp Try.prog 29 _ _ [t.r, t.M.map mrow] (_, _, [some t.r, _]) at c3
  generalize posT t.T k = p at *
  generalize t.T[p] = x at *
  have c2 := owner_CloneB x hl
  have h3 : 0 ≤ (p : Int) ∧ (p : Int) < (t.T.length : Int) ∧ t.r[0 + (p : Int).toNat]? = some x.g := ⟨by omega, by omega, hat⟩
  generalize t.T.length = n0 at *
  generalize t.r = R at *
  generalize t.M.map mrow = Mr at *
  repeat' (conv => whnf
           first
           | (refine And.intro (Or.inl (by kernel_rfl)) ?_)
           | (refine And.intro (by kernel_rfl) ?_)
           | (refine And.intro ⟨by kernel_rfl, by kernel_rfl⟩ ?_)
           | (refine Or.inr ⟨_, c1, ?_⟩)
           | (refine Or.inr ⟨_, c3, ?_⟩)
           | (refine ⟨_, h3, ?_⟩)
           | (refine ⟨_, hat, ?_⟩)
           | (refine Or.inl ⟨_, c2, ?_⟩)
           | (refine ⟨_, c2, ?_⟩)
           | (refine cond_f ?_ ?_)
           | (refine ⟨_, ⟨by decide, rfl⟩, ?_⟩)
           | (refine cond_i (fun h => ?_) (fun h => ?_)))
  all_goals (conv => whnf)
  all_goals rfl
set_option maxHeartbeats 4000000 in
theorem get_miss (t : Tab) (k : Sp.Key) (ht : okT t) (hs : t.T.length ≤ 40) (hk : hasT t.T k = false) :
    Fp Try.prog 12 [.ptr 0 0, .agg k.g] [tb t.T.length] [t.r, t.M.map mrow] (.tup [.agg (zOwner.gw .nils), .bool false], [some (tb t.T.length)], [some t.r, some (t.M.map mrow)]) := by
  refine Fp.of_awp Try.func12 rfl (by kernel_rfl) (Nat.le_of_ble_eq_true rfl) ?_
  have c1 := table_none t.T.length (t.M.map mrow) t.r
  have c3 := table_at t.T t.E (t.M.map mrow) k ht.1 hs
  rw [hk] at c3
  change Fp Try.prog 29 _ _ [t.r, t.M.map mrow] (_, _, [some t.r, _]) at c3
  generalize posT t.T k = p at *
  generalize t.T.length = n0 at *
  generalize t.r = R at *
  generalize t.M.map mrow = Mr at *
  repeat' (conv => whnf
           first
           | (refine And.intro (Or.inl (by kernel_rfl)) ?_)
           | (refine And.intro (by kernel_rfl) ?_)
           | (refine And.intro ⟨by kernel_rfl, by kernel_rfl⟩ ?_)
           | (refine Or.inr ⟨_, c1, ?_⟩)
           | (refine Or.inr ⟨_, c3, ?_⟩)
           | (refine cond_f ?_ ?_)
           | (refine ⟨_, ⟨by decide, rfl⟩, ?_⟩)
           | (refine cond_i (fun h => ?_) (fun h => ?_)))
  all_goals (conv => whnf)
  all_goals rfl
def getG (T : List Owner) (k : Sp.Key) : List G := match getT T k with | some x => x.g | none => zOwner.gw .nils
theorem table_Get (t : Tab) (k : Sp.Key) (ht : okT t) (hs : t.T.length ≤ 40) :
    Fp Try.prog 12 [.ptr 0 0, .agg k.g] [tb t.T.length] [t.r, t.M.map mrow] (.tup [.agg (getG t.T k), .bool (getT t.T k).isSome], [some (tb t.T.length)], [some t.r, some (t.M.map mrow)]) := by
  unfold getG getT
  cases h : t.T[posT t.T k]? with
  | none => exact get_miss t k ht hs (by unfold hasT; rw [h])
  | some x =>
    simp only
    by_cases hk : x.key = k
    · rw [if_pos hk]
      obtain ⟨hp, hx⟩ := List.getElem?_eq_some_iff.1 h
      have := get_hit t k ht hs hp (by rw [hx]; exact hk)
      rw [hx] at this
      exact this
    · rw [if_neg hk]
      exact get_miss t k ht hs (by rw [hasT_of h]; exact decide_eq_false hk)
set_option maxHeartbeats 4000000 in
theorem drop_hit (t : Tab) (k : Sp.Key) (ht : okT t) (hs : t.T.length ≤ 40) (hp : posT t.T k < t.T.length) (hk : t.T[posT t.T k].key = k) :
    Fp Try.prog 23 [.ptr 0 0, .agg k.g] [tb t.T.length] [t.r, t.M.map mrow] (.bool true, [some (tb (t.T.length - 1))], [some ((t.T.map Owner.g).eraseIdx (posT t.T k) ++ [zRow]), some ((unlM t.M k t.T[posT t.T k].calls).map mrow)]) := by
  refine Fp.of_awp Try.func23 rfl (by kernel_rfl) (Nat.le_of_ble_eq_true rfl) ?_
  have c1 := table_none t.T.length (t.M.map mrow) t.r
  have c3 := table_at t.T t.E (t.M.map mrow) k ht.1 hs
  have e1 : hasT t.T k = true := by rw [hasT_of (List.getElem?_eq_getElem hp)]; exact decide_eq_true hk
  rw [e1] at c3
  have c4 := table_unlink t.T[posT t.T k] t.T.length t.M t.r (ht.2.2 _ (List.getElem_mem hp))
  rw [hk] at c4
  have hat := r_at (t := t) hp
  have c5 := slices_Delete t.r t.T.length (posT t.T k) (IntKind.i64.wrap ((posT t.T k : Int) + 1)) (wrap_i64 (by omega)) (by unfold Tab.r; simp) hp hs (r_len t ht.2.1)
  rw [show t.r.take t.T.length = t.T.map Owner.g from List.take_left' (by simp)] at c5
  change Fp Try.prog 29 _ _ [t.r, t.M.map mrow] (_, _, [some t.r, _]) at c3
  generalize (t.T.map Owner.g).eraseIdx (posT t.T k) ++ [zRow] = R0 at *
  generalize posT t.T k = p at *
  generalize t.T[p] = x at *
  have h3 : 0 ≤ (p : Int) ∧ (p : Int) < (t.T.length : Int) ∧ t.r[0 + (p : Int).toNat]? = some x.g := ⟨by omega, by omega, hat⟩
  generalize unlM t.M k x.calls = m0 at *
  generalize t.T.length = n0 at *
  generalize t.r = R at *
  generalize t.M.map mrow = Mr at *
  generalize m0.map mrow = Mr0 at *
  repeat' (conv => whnf
           first
           | (refine And.intro (Or.inl (by kernel_rfl)) ?_)
           | (refine And.intro (by kernel_rfl) ?_)
           | (refine And.intro ⟨by kernel_rfl, by kernel_rfl⟩ ?_)
           | (refine Or.inr ⟨_, c1, ?_⟩)
           | (refine Or.inr ⟨_, c3, ?_⟩)
           | (refine ⟨_, h3, ?_⟩)
           | (refine ⟨_, hat, ?_⟩)
           | (refine Or.inr ⟨_, c4, ?_⟩)
           | (refine Or.inr ⟨_, c5, ?_⟩)
           | (refine cond_f ?_ ?_)
           | (refine ⟨_, ⟨by decide, rfl⟩, ?_⟩)
           | (refine cond_i (fun h => ?_) (fun h => ?_)))
  all_goals (conv => whnf)
  all_goals rfl
set_option maxHeartbeats 4000000 in
theorem drop_miss (t : Tab) (k : Sp.Key) (ht : okT t) (hs : t.T.length ≤ 40) (hk : hasT t.T k = false) :
    Fp Try.prog 23 [.ptr 0 0, .agg k.g] [tb t.T.length] [t.r, t.M.map mrow] (.bool false, [some (tb t.T.length)], [some t.r, some (t.M.map mrow)]) := by
  refine Fp.of_awp Try.func23 rfl (by kernel_rfl) (Nat.le_of_ble_eq_true rfl) ?_
  have c1 := table_none t.T.length (t.M.map mrow) t.r
  have c3 := table_at t.T t.E (t.M.map mrow) k ht.1 hs
  rw [hk] at c3
  change Fp Try.prog 29 _ _ [t.r, t.M.map mrow] (_, _, [some t.r, _]) at c3
  generalize posT t.T k = p at *
  generalize t.T.length = n0 at *
  generalize t.r = R at *
  generalize t.M.map mrow = Mr at *
  repeat' (conv => whnf
           first
           | (refine And.intro (Or.inl (by kernel_rfl)) ?_)
           | (refine And.intro (by kernel_rfl) ?_)
           | (refine And.intro ⟨by kernel_rfl, by kernel_rfl⟩ ?_)
           | (refine Or.inr ⟨_, c1, ?_⟩)
           | (refine Or.inr ⟨_, c3, ?_⟩)
           | (refine cond_f ?_ ?_)
           | (refine ⟨_, ⟨by decide, rfl⟩, ?_⟩)
           | (refine cond_i (fun h => ?_) (fun h => ?_)))
  all_goals (conv => whnf)
  all_goals rfl
theorem table_Drop (t : Tab) (k : Sp.Key) (ht : okT t) (hs : t.T.length ≤ 40) :
    Fp Try.prog 23 [.ptr 0 0, .agg k.g] [tb t.T.length] [t.r, t.M.map mrow] (.bool (getT t.T k).isSome, [some (tb (dropTab t k).T.length)], [some (dropTab t k).r, some ((dropTab t k).M.map mrow)]) := by
  unfold dropTab getT
  cases h : t.T[posT t.T k]? with
  | none => exact drop_miss t k ht hs (by unfold hasT; rw [h])
  | some x =>
    simp only
    by_cases hk : x.key = k
    · rw [if_pos hk, if_pos hk]
      obtain ⟨hp, hx⟩ := List.getElem?_eq_some_iff.1 h
      have := drop_hit t k ht hs hp (by rw [hx]; exact hk)
      rw [hx] at this
      rw [hk]
      simp only
      rw [List.length_eraseIdx_of_lt hp]
      rw [show (⟨t.T.eraseIdx (posT t.T k), [zOwner.gw .nils], unlM t.M k x.calls⟩ : Tab).r = (t.T.map Owner.g).eraseIdx (posT t.T k) ++ [zRow] from by
        unfold Tab.r; simp only [List.eraseIdx_eq_take_drop_succ, List.map_append, List.map_take, List.map_drop]; rfl]
      exact this
    · rw [if_neg hk, if_neg hk]
      exact drop_miss t k ht hs (by rw [hasT_of h]; exact decide_eq_false hk)
def callK (t : Tab) (d : Sp.Id) : Option Owner := (mget t.M d).bind (getT t.T)
def callG (t : Tab) (d : Sp.Id) : List G := match callK t d with | some x => x.g | none => zOwner.gw .nils
set_option maxHeartbeats 4000000 in
theorem table_Caller (t : Tab) (d : Sp.Id) (ht : okT t) (hs : t.T.length ≤ 40) :
    Fp Try.prog 22 [.ptr 0 0, .agg d.g] [tb t.T.length] [t.r, t.M.map mrow] (.tup [.agg (callG t d), .bool (callK t d).isSome], [some (tb t.T.length)], [some t.r, some (t.M.map mrow)]) := by
  have c1 := table_none t.T.length (t.M.map mrow) t.r
  have l1 := id_look d t.M
  have l2 := look_id d t.M
  refine Fp.of_awp Try.func22 rfl (by kernel_rfl) (Nat.le_of_ble_eq_true rfl) ?_
  unfold callG callK
  cases h : mget t.M d with
  | none =>
    rw [h] at l2
    generalize t.T.length = n0 at *
    generalize t.r = R at *
    generalize t.M.map mrow = Mr at *
    repeat' (conv => whnf
             first
             | (refine And.intro (Or.inl (by kernel_rfl)) ?_)
             | (refine And.intro (by kernel_rfl) ?_)
             | (refine And.intro ⟨by kernel_rfl, by kernel_rfl⟩ ?_)
             | (refine Or.inr ⟨_, c1, ?_⟩)
             | (refine ⟨idF d, l1, _, _, l2, ?_⟩)
             | (refine cond_f ?_ ?_)
             | (refine ⟨_, ⟨by decide, rfl⟩, ?_⟩)
             | (refine cond_i (fun h => ?_) (fun h => ?_)))
    all_goals (conv => whnf)
    all_goals rfl
  | some k =>
    rw [h] at l2
    have c2 := table_Get t k ht hs
    simp only [Option.bind_some]
    unfold getG at c2
    generalize getT t.T k = r at *
    generalize t.T.length = n0 at *
    generalize t.r = R at *
    generalize t.M.map mrow = Mr at *
    cases r with
    | none =>
      repeat' (conv => whnf
               first
               | (refine And.intro (Or.inl (by kernel_rfl)) ?_)
               | (refine And.intro (by kernel_rfl) ?_)
               | (refine And.intro ⟨by kernel_rfl, by kernel_rfl⟩ ?_)
               | (refine Or.inr ⟨_, c1, ?_⟩)
               | (refine ⟨idF d, l1, _, _, l2, ?_⟩)
               | (refine Or.inr ⟨_, c2, ?_⟩)
               | (refine cond_f ?_ ?_)
               | (refine ⟨_, ⟨by decide, rfl⟩, ?_⟩)
               | (refine cond_i (fun h => ?_) (fun h => ?_)))
      all_goals (conv => whnf)
      all_goals rfl
    | some x =>
      repeat' (conv => whnf
               first
               | (refine And.intro (Or.inl (by kernel_rfl)) ?_)
               | (refine And.intro (by kernel_rfl) ?_)
               | (refine And.intro ⟨by kernel_rfl, by kernel_rfl⟩ ?_)
               | (refine Or.inr ⟨_, c1, ?_⟩)
               | (refine ⟨idF d, l1, _, _, l2, ?_⟩)
               | (refine Or.inr ⟨_, c2, ?_⟩)
               | (refine cond_f ?_ ?_)
               | (refine ⟨_, ⟨by decide, rfl⟩, ?_⟩)
               | (refine cond_i (fun h => ?_) (fun h => ?_)))
      all_goals (conv => whnf)
      all_goals rfl
end Go.Proofs.Ytcihkmnolagdlaa.Cn
namespace Go.Proofs.Ytcihkmnolagdlaa.Cn
open Go Go.Proofs Go.Proofs.Ytcihkmnolagdlaa.Av Go.Proofs.Ytcihkmnolagdlaa.Sp
set_option linter.unusedVariables false
set_option linter.unusedSimpArgs false
set_option linter.unusedSectionVars false
set_option maxRecDepth 100000
attribute [local irreducible] Fv Fp

def okey (o : Owner) : List G := o.key.g
theorem okey_app {l : List Owner} (h : l.length ≤ 1000) : 0 + l.length ≤ (l.map okey).length ∧ (0 < l.length + 1 ∨ l.map okey = []) ∧ fitsB Try.prog 32 (l.length + 1) ∧
    ∀ r ∈ l.map okey, r.length = Try.prog.cellsOf 32 := by
  refine ⟨by simp, .inl (by omega), fits 32 (by kernel_rfl) (by omega), fun r hr => ?_⟩
  obtain ⟨q, _, rfl⟩ := List.mem_map.1 hr
  rw [show Try.prog.cellsOf 32 = 4 from by kernel_rfl]; rfl
theorem okey_snoc {l : List Owner} {a : Owner} : ((l.map okey).drop 0).take l.length ++ [a.key.g] = (l ++ [a]).map okey := by
  rw [List.drop_zero, List.map_append, List.take_of_length_le (by simp)]; rfl
def FilO (p : Owner → Bool) (l : List Owner) (j : Nat) (b : Nat × List (List G)) : Prop := b.1 = ((l.take j).filter p).length ∧ b.2 = ((l.take j).filter p).map okey
theorem fil_takeO (p : Owner → Bool) {l : List Owner} {j : Nat} (hj : j < l.length) : (l.take (j + 1)).filter p = (l.take j).filter p ++ (if p l[j] then [l[j]] else []) := by
  rw [List.take_succ_eq_append_getElem hj, List.filter_append, List.filter_cons, List.filter_nil]
theorem fil_lenO (p : Owner → Bool) (l : List Owner) (j : Nat) : ((l.take j).filter p).length ≤ l.length := by
  have := List.length_filter_le p (l.take j); rw [List.length_take] at this; omega
theorem r_row {t : Tab} {j : Nat} (h : j < t.T.length) : 0 ≤ (j : Int) ∧ (j : Int) < (t.T.length : Int) ∧ t.r[0 + (j : Int).toNat]? = some t.T[j].g := ⟨by omega, by omega, r_at h⟩
set_option maxHeartbeats 4000000 in
theorem table_Keys (t : Tab) (hs : t.T.length ≤ 40) :
    Fp Try.prog 17 [.ptr 0 0] [tb t.T.length] [t.r, t.M.map mrow] (.own 2 0 t.T.length, [some (tb t.T.length)], [some t.r, some (t.M.map mrow), some (t.T.map okey)]) := by
  refine Fp.of_awp Try.func17 rfl (by kernel_rfl) (Nat.le_of_ble_eq_true rfl) ?_
  have c1 := table_none t.T.length (t.M.map mrow) t.r
  have hrow := @r_row t
  generalize t.M.map mrow = Mr at *
  generalize t.r = R at *
  repeat' (conv => whnf
           first
           | (refine And.intro (Or.inl (by kernel_rfl)) ?_)
           | (refine And.intro (by kernel_rfl) ?_)
           | (refine And.intro ⟨by kernel_rfl, by kernel_rfl⟩ ?_)
           | (refine Or.inr ⟨_, c1, ?_⟩)
           | (refine cond_f ?_ ?_)
           | (refine ⟨_, ⟨by decide, rfl⟩, ?_⟩)
           | (refine cond_i (fun h => ?_) (fun h => ?_)))
  all_goals (conv => whnf)
  refine Has.own0 3 21 rfl rfl ?_
  refine Has.each [0, 3, 11, 12, 13] [5] t.T.length (fun k (b : Nat × List (List G)) => b.1 = k ∧ b.2 = (t.T.take k).map okey) (fun b i =>
    St.ofP 24 1 2 [(0, .ptr 32 0), (3, .own 21 0 b.1), (11, .own 32 0 t.T.length), (12, .int .i64 (t.T.length : Nat)), (13, .int .i64 i)] [(32, [.own 32 0 t.T.length, .mp 33 3 3])] [(32, R), (33, Mr), (21, b.2)]) ⟨(0, []), _, rfl, ⟨rfl, rfl⟩, rfl⟩ (fun k b hk hI => ?_) (fun b hI => ?_)
  · obtain ⟨n, X⟩ := b
    obtain ⟨rfl, rfl⟩ : n = k ∧ X = _ := hI
    have f1 := hrow hk
    have c2 : decide ((n : Int) < (t.T.length : Int)) = true := by simp; omega
    have a1 := okey_app (l := t.T.take n) (by rw [List.length_take]; omega)
    have e1 : (t.T.take n).length = n := by rw [List.length_take]; omega
    rw [e1] at a1
    have e2 := okey_snoc (l := t.T.take n) (a := t.T[n])
    rw [e1, ← List.take_succ_eq_append_getElem hk] at e2
    generalize t.T[n] = x at *
    refine awp_go ?_
    repeat' (conv => whnf
             first
             | (refine And.intro (Or.inl (by kernel_rfl)) ?_)
             | (refine And.intro (by kernel_rfl) ?_)
             | (refine And.intro ⟨by kernel_rfl, by kernel_rfl⟩ ?_)
             | (refine cond_1 c2 ?_)
             | (refine ⟨_, f1, ?_⟩)
             | (refine ⟨_, f1.2.2, ?_⟩)
             | (refine ⟨a1, ?_⟩)
             | (refine cond_f ?_ ?_)
             | (refine ⟨_, ⟨by decide, rfl⟩, ?_⟩)
             | (refine cond_i (fun h => ?_) (fun h => ?_)))
    all_goals (conv => whnf)
    exact ⟨(_, _), _, rfl, ⟨rfl, e2⟩, up1 hk (by omega)⟩
  · obtain ⟨n, X⟩ := b
    obtain ⟨rfl, rfl⟩ : n = _ ∧ X = _ := hI
    rw [List.take_length]
    have c2 : decide ((t.T.length : Int) < (t.T.length : Int)) = false := by simp
    refine awp_go ?_
    repeat' (conv => whnf
             first
             | (refine And.intro (Or.inl (by kernel_rfl)) ?_)
             | (refine And.intro (by kernel_rfl) ?_)
             | (refine And.intro ⟨by kernel_rfl, by kernel_rfl⟩ ?_)
             | (refine cond_0 c2 ?_)
             | (refine cond_f ?_ ?_)
             | (refine ⟨_, ⟨by decide, rfl⟩, ?_⟩)
             | (refine cond_i (fun h => ?_) (fun h => ?_)))
    all_goals (conv => whnf)
    all_goals rfl
set_option maxHeartbeats 4000000 in
theorem table_Under (t : Tab) (d : Sp.Id) (hs : t.T.length ≤ 40) :
    Fp Try.prog 24 [.ptr 0 0, .agg d.g] [tb t.T.length] [t.r, t.M.map mrow] (.own 2 0 (t.T.filter fun o => decide (o.root = d)).length, [some (tb t.T.length)], [some t.r, some (t.M.map mrow), some ((t.T.filter fun o => decide (o.root = d)).map okey)]) := by
  refine Fp.of_awp Try.func24 rfl (by kernel_rfl) (Nat.le_of_ble_eq_true rfl) ?_
  have c1 := table_none t.T.length (t.M.map mrow) t.r
  have hrow := @r_row t
  generalize t.M.map mrow = Mr at *
  generalize t.r = R at *
  repeat' (conv => whnf
           first
           | (refine And.intro (Or.inl (by kernel_rfl)) ?_)
           | (refine And.intro (by kernel_rfl) ?_)
           | (refine And.intro ⟨by kernel_rfl, by kernel_rfl⟩ ?_)
           | (refine Or.inr ⟨_, c1, ?_⟩)
           | (refine cond_f ?_ ?_)
           | (refine ⟨_, ⟨by decide, rfl⟩, ?_⟩)
           | (refine cond_i (fun h => ?_) (fun h => ?_)))
  all_goals (conv => whnf)
  refine Has.own0 5 27 rfl rfl ?_
  refine Has.each [0, 3, 5, 13, 14, 15] [7] t.T.length (FilO (fun o => decide (o.root = d)) t.T) (fun b i =>
    St.ofP 30 1 2 [(0, .ptr 38 0), (3, .ptr 3 0), (5, .own 27 0 b.1), (13, .own 38 0 t.T.length), (14, .int .i64 (t.T.length : Nat)), (15, .int .i64 i)] [(3, d.g), (38, [.own 38 0 t.T.length, .mp 39 3 3])] [(38, R), (39, Mr), (27, b.2)]) ⟨(0, []), _, rfl, ⟨rfl, rfl⟩, rfl⟩ (fun k b hk hI => ?_) (fun b hI => ?_)
  · obtain ⟨n, X⟩ := b
    obtain ⟨hn, hX⟩ := hI
    simp only at hn hX
    subst hn; subst hX
    have f1 := hrow hk
    have c2 : decide ((k : Int) < (t.T.length : Int)) = true := by simp; omega
    have hlen := fil_lenO (fun o => decide (o.root = d)) t.T k
    have hstep := fil_takeO (fun o => decide (o.root = d)) hk
    generalize (t.T.take k).filter (fun o => decide (o.root = d)) = out at *
    have a1 := okey_app (l := out) (by omega)
    have e2 := okey_snoc (l := out) (a := t.T[k])
    have wj := up1 hk (show t.T.length < 4611686018427387904 by omega)
    generalize t.T[k] = x at *
    have e3 := id_eqB x.root d
    cases hb : decide (x.root = d) with
    | true =>
      rw [hb] at e3 hstep
      rw [if_pos rfl] at hstep
      refine awp_go ?_
      repeat' (conv => whnf
               first
               | (refine And.intro (Or.inl (by kernel_rfl)) ?_)
               | (refine And.intro (by kernel_rfl) ?_)
               | (refine And.intro ⟨by kernel_rfl, by kernel_rfl⟩ ?_)
               | (refine cond_1 c2 ?_)
               | (refine ⟨_, f1, ?_⟩)
               | (refine ⟨_, f1.2.2, ?_⟩)
               | (refine cond_1 e3 ?_)
               | (refine ⟨a1, ?_⟩)
               | (refine cond_f ?_ ?_)
               | (refine ⟨_, ⟨by decide, rfl⟩, ?_⟩)
               | (refine cond_i (fun h => ?_) (fun h => ?_)))
      all_goals (conv => whnf)
      exact ⟨(_, _), _, rfl, ⟨by rw [hstep, List.length_append]; rfl, by rw [hstep]; exact e2⟩, wj⟩
    | false =>
      rw [hb] at e3 hstep
      simp only [Bool.false_eq_true, if_false, List.append_nil] at hstep
      refine awp_go ?_
      repeat' (conv => whnf
               first
               | (refine And.intro (Or.inl (by kernel_rfl)) ?_)
               | (refine And.intro (by kernel_rfl) ?_)
               | (refine And.intro ⟨by kernel_rfl, by kernel_rfl⟩ ?_)
               | (refine cond_1 c2 ?_)
               | (refine ⟨_, f1, ?_⟩)
               | (refine ⟨_, f1.2.2, ?_⟩)
               | (refine cond_0 e3 ?_)
               | (refine cond_f ?_ ?_)
               | (refine ⟨_, ⟨by decide, rfl⟩, ?_⟩)
               | (refine cond_i (fun h => ?_) (fun h => ?_)))
      all_goals (conv => whnf)
      exact ⟨(_, _), _, rfl, ⟨by rw [hstep], by rw [hstep]⟩, wj⟩
  · obtain ⟨n, X⟩ := b
    obtain ⟨hn, hX⟩ := hI
    simp only at hn hX
    subst hn; subst hX
    rw [List.take_length]
    have c2 : decide ((t.T.length : Int) < (t.T.length : Int)) = false := by simp
    refine awp_go ?_
    repeat' (conv => whnf
             first
             | (refine And.intro (Or.inl (by kernel_rfl)) ?_)
             | (refine And.intro (by kernel_rfl) ?_)
             | (refine And.intro ⟨by kernel_rfl, by kernel_rfl⟩ ?_)
             | (refine cond_0 c2 ?_)
             | (refine cond_f ?_ ?_)
             | (refine ⟨_, ⟨by decide, rfl⟩, ?_⟩)
             | (refine cond_i (fun h => ?_) (fun h => ?_)))
    all_goals (conv => whnf)
    all_goals rfl
end Go.Proofs.Ytcihkmnolagdlaa.Cn
namespace Go.Proofs.Ytcihkmnolagdlaa.Cn
open Go Go.Proofs Go.Proofs.Ytcihkmnolagdlaa.Av Go.Proofs.Ytcihkmnolagdlaa.Sp
set_option linter.unusedVariables false
set_option linter.unusedSimpArgs false
set_option linter.unusedSectionVars false
set_option maxRecDepth 100000
attribute [local irreducible] Fv Fp

set_option maxHeartbeats 4000000 in
theorem ref24_Same (l : List Sp.Key) (hl : l.length < 4611686018427387904) : Fv Try.prog 16 [.sl (l.map Key.g), .sl (l.map Key.g)] (.bool true) := by
  have b1 : (((l.map Key.g).length : Int) != ((l.map Key.g).length : Int)) = false := by simp
  refine Fv.of_awp Try.func16 rfl (by kernel_rfl) rfl (Nat.le_of_ble_eq_true rfl) ?_
  repeat' (conv => whnf
           first
           | (refine And.intro (Or.inl (by kernel_rfl)) ?_)
           | (refine And.intro (by kernel_rfl) ?_)
           | (refine And.intro ⟨by kernel_rfl, by kernel_rfl⟩ ?_)
           | (refine cond_0 b1 ?_)
           | (refine cond_f ?_ ?_)
           | (refine ⟨_, ⟨by decide, rfl⟩, ?_⟩)
           | (refine cond_i (fun h => ?_) (fun h => ?_)))
  all_goals (conv => whnf)
  refine Has.each [0, 1, 5] [] l.length (fun _ (_ : Unit) => True) (fun _ i => St.of 26 [(0, .sl (l.map Key.g)), (1, .sl (l.map Key.g)), (5, .int .i64 i)] [] []) ⟨(), 0, rfl, trivial, rfl⟩ (fun k _ hk _ => ?_) (fun _ _ => ?_)
  · have f1 := row_at (R := Key.g) hk
    refine awp_go ?_
    repeat' (conv => whnf
             first
             | (refine And.intro (Or.inl (by kernel_rfl)) ?_)
             | (refine And.intro (by kernel_rfl) ?_)
             | (refine And.intro ⟨by kernel_rfl, by kernel_rfl⟩ ?_)
             | (refine cond_1 (lt_at hk) ?_)
             | (refine ⟨_, f1, ?_⟩)
             | (refine cond_f ?_ ?_)
             | (refine ⟨_, ⟨by decide, rfl⟩, ?_⟩)
             | (refine cond_i (fun h => ?_) (fun h => ?_)))
    all_goals (conv => whnf)
    · simp at h
    · exact ⟨(), _, rfl, trivial, up1 hk hl⟩
  · refine awp_go ?_
    repeat' (conv => whnf
             first
             | (refine And.intro (Or.inl (by kernel_rfl)) ?_)
             | (refine And.intro (by kernel_rfl) ?_)
             | (refine And.intro ⟨by kernel_rfl, by kernel_rfl⟩ ?_)
             | (refine cond_0 lt_end ?_)
             | (refine cond_f ?_ ?_)
             | (refine ⟨_, ⟨by decide, rfl⟩, ?_⟩)
             | (refine cond_i (fun h => ?_) (fun h => ?_)))
    all_goals (conv => whnf)
    all_goals rfl
def kOwner (n : Int) : Owner := ⟨⟨⟨0, 0, 0⟩, n⟩, ⟨0, 0, 0⟩, ⟨⟨0, 0, 0⟩, 0⟩, 0, 0, 0, 0, 0, 0, 0, []⟩
set_option maxHeartbeats 8000000 in
theorem law24_awake : Fv Try.prog 6 [] (.bool true) := by
  refine Fv.of_awp Try.func6 rfl (by kernel_rfl) rfl (Nat.le_of_ble_eq_true rfl) ?_
  have ok0 : okE [] := fun r hr => by simp at hr
  have k1 : okT ⟨[], [], []⟩ := ⟨List.Pairwise.nil, ok0, fun x hx => by simp at hx⟩
  have k2 : okT ⟨[kOwner 2], [], []⟩ := ⟨List.pairwise_singleton _ _, ok0, fun x hx => by simp at hx; subst hx; unfold okC; simp [kOwner]⟩
  have k3 : okT ⟨[kOwner 1, kOwner 2], [], []⟩ := ⟨List.pairwise_cons.2 ⟨fun x hx => by simp at hx; subst hx; rfl, List.pairwise_singleton _ _⟩, ok0, fun x hx => by simp at hx; rcases hx with rfl | rfl <;> (unfold okC; simp [kOwner])⟩
  have c1 : Fp Try.prog 10 [.ptr 0 0, .agg ((kOwner 2).gw .nils)] [tb 0] [[], []] (.int .i64 0, [some (tb 1)], [some [(kOwner 2).g], some []]) := Fp.nlA (table_Put ⟨[], [], []⟩ (kOwner 2) k1 (by unfold okC; simp [kOwner]) (by simp))
  have c2 : Fp Try.prog 10 [.ptr 0 0, .agg ((kOwner 1).gw .nils)] [tb 1] [[(kOwner 2).g], []] (.int .i64 0, [some (tb 2)], [some [(kOwner 1).g, (kOwner 2).g], some []]) := Fp.nlA (table_Put ⟨[kOwner 2], [], []⟩ (kOwner 1) k2 (by unfold okC; simp [kOwner]) (by simp))
  have c3 : Fp Try.prog 12 [.ptr 0 0, .agg (⟨⟨0, 0, 0⟩, 2⟩ : Sp.Key).g] [tb 2] [[(kOwner 1).g, (kOwner 2).g], []] (.tup [.agg (kOwner 2).g, .bool true], [some (tb 2)], [some [(kOwner 1).g, (kOwner 2).g], some []]) := table_Get ⟨[kOwner 1, kOwner 2], [], []⟩ ⟨⟨0, 0, 0⟩, 2⟩ k3 (by simp)
  have c4 : Fp Try.prog 17 [.ptr 0 0] [tb 2] [[(kOwner 1).g, (kOwner 2).g], []] (.own 2 0 2, [some (tb 2)], [some [(kOwner 1).g, (kOwner 2).g], some [], some [(kOwner 1).key.g, (kOwner 2).key.g]]) := table_Keys ⟨[kOwner 1, kOwner 2], [], []⟩ (by simp)
  have c5 : Fv Try.prog 16 [.sl [(kOwner 1).key.g, (kOwner 2).key.g], .sl [(kOwner 1).key.g, (kOwner 2).key.g]] (.bool true) := ref24_Same [(kOwner 1).key, (kOwner 2).key] (by simp)
  have c6 : Fp Try.prog 23 [.ptr 0 0, .agg (⟨⟨0, 0, 0⟩, 1⟩ : Sp.Key).g] [tb 2] [[(kOwner 1).g, (kOwner 2).g], []] (.bool true, [some (tb 1)], [some [(kOwner 2).g, zRow], some []]) := table_Drop ⟨[kOwner 1, kOwner 2], [], []⟩ ⟨⟨0, 0, 0⟩, 1⟩ k3 (by simp)
  have c7 : Fp Try.prog 17 [.ptr 0 0] [tb 1] [[(kOwner 2).g, zRow], []] (.own 2 0 1, [some (tb 1)], [some [(kOwner 2).g, zRow], some [], some [(kOwner 2).key.g]]) := table_Keys ⟨[kOwner 2], [zRow], []⟩ (by simp)
  repeat' (conv => whnf
           first
           | (refine And.intro (Or.inr ⟨by (unfold keepE; kernel_rfl), by kernel_rfl⟩) ?_)
           | (refine And.intro (by kernel_rfl) ?_)
           | (refine And.intro ⟨by kernel_rfl, by kernel_rfl⟩ ?_)
           | (refine Or.inr ⟨_, table_New, ?_⟩)
           | (refine Or.inr ⟨_, c1, ?_⟩)
           | (refine Or.inr ⟨_, c2, ?_⟩)
           | (refine Or.inr ⟨_, c3, ?_⟩)
           | (refine Or.inr ⟨_, c4, ?_⟩)
           | (refine Or.inr ⟨_, c6, ?_⟩)
           | (refine Or.inr ⟨_, c7, ?_⟩)
           | (refine Or.inl ⟨_, c5, ?_⟩)
           | (refine ⟨_, c5, ?_⟩)
           | (refine ⟨Nat.le_refl _, ?_⟩)
           | (refine Or.inl ?_)
           | (refine cond_f ?_ ?_)
           | (refine ⟨_, ⟨by decide, rfl⟩, ?_⟩)
           | (refine cond_i (fun h => ?_) (fun h => ?_)))
  all_goals (conv => whnf)
  all_goals rfl
end Go.Proofs.Ytcihkmnolagdlaa.Cn
namespace Go.Proofs.Ytcihkmnolagdlaa.Cn
open Go Go.Proofs Go.Proofs.Ytcihkmnolagdlaa.Av Go.Proofs.Ytcihkmnolagdlaa.Sp
set_option linter.unusedVariables false
set_option linter.unusedSimpArgs false
set_option linter.unusedSectionVars false
set_option maxRecDepth 100000
attribute [local irreducible] Fv Fp

/-- A nil table, and one that New did not make. -/
def noT (b : Bool) : G := match b with | true => .lit (.pointer none) | false => .elt [.nils, .lit (.map none)] 0
theorem no_none (b : Bool) : Fv Try.prog 27 [noT b] (.bool true) := by
  refine Fv.of_awp Try.func27 rfl (by kernel_rfl) rfl (Nat.le_of_ble_eq_true rfl) ?_
  cases b with
  | true =>
    repeat' (conv => whnf
             first
             | (refine And.intro (Or.inl (by kernel_rfl)) ?_)
             | (refine And.intro (by kernel_rfl) ?_)
             | (refine And.intro ⟨by kernel_rfl, by kernel_rfl⟩ ?_)
             | (refine cond_f ?_ ?_)
             | (refine ⟨_, ⟨by decide, rfl⟩, ?_⟩)
             | (refine cond_i (fun h => ?_) (fun h => ?_)))
    all_goals (conv => whnf)
    all_goals rfl
  | false =>
    repeat' (conv => whnf
             first
             | (refine And.intro (Or.inl (by kernel_rfl)) ?_)
             | (refine And.intro (by kernel_rfl) ?_)
             | (refine And.intro ⟨by kernel_rfl, by kernel_rfl⟩ ?_)
             | (refine cond_f ?_ ?_)
             | (refine ⟨_, ⟨by decide, rfl⟩, ?_⟩)
             | (refine cond_i (fun h => ?_) (fun h => ?_)))
    all_goals (conv => whnf)
    all_goals rfl
theorem no_Get (b : Bool) (k : Sp.Key) : Fv Try.prog 12 [noT b, .agg k.g] (.tup [.agg zOwner.g, .bool false]) := by
  refine Fv.of_awp Try.func12 rfl (by kernel_rfl) rfl (Nat.le_of_ble_eq_true rfl) ?_
  cases b with
  | true =>
    repeat' (conv => whnf
             first
             | (refine And.intro (Or.inl (by kernel_rfl)) ?_)
             | (refine And.intro (by kernel_rfl) ?_)
             | (refine And.intro ⟨by kernel_rfl, by kernel_rfl⟩ ?_)
             | (refine Or.inl ⟨_, no_none true, ?_⟩)
             | (refine ⟨_, no_none true, ?_⟩)
             | (refine cond_f ?_ ?_)
             | (refine ⟨_, ⟨by decide, rfl⟩, ?_⟩)
             | (refine cond_i (fun h => ?_) (fun h => ?_)))
    all_goals (conv => whnf)
    all_goals rfl
  | false =>
    repeat' (conv => whnf
             first
             | (refine And.intro (Or.inl (by kernel_rfl)) ?_)
             | (refine And.intro (by kernel_rfl) ?_)
             | (refine And.intro ⟨by kernel_rfl, by kernel_rfl⟩ ?_)
             | (refine Or.inl ⟨_, no_none false, ?_⟩)
             | (refine ⟨_, no_none false, ?_⟩)
             | (refine cond_f ?_ ?_)
             | (refine ⟨_, ⟨by decide, rfl⟩, ?_⟩)
             | (refine cond_i (fun h => ?_) (fun h => ?_)))
    all_goals (conv => whnf)
    all_goals rfl
theorem no_Caller (b : Bool) (d : Sp.Id) : Fv Try.prog 22 [noT b, .agg d.g] (.tup [.agg zOwner.g, .bool false]) := by
  refine Fv.of_awp Try.func22 rfl (by kernel_rfl) rfl (Nat.le_of_ble_eq_true rfl) ?_
  cases b with
  | true =>
    repeat' (conv => whnf
             first
             | (refine And.intro (Or.inl (by kernel_rfl)) ?_)
             | (refine And.intro (by kernel_rfl) ?_)
             | (refine And.intro ⟨by kernel_rfl, by kernel_rfl⟩ ?_)
             | (refine Or.inl ⟨_, no_none true, ?_⟩)
             | (refine ⟨_, no_none true, ?_⟩)
             | (refine cond_f ?_ ?_)
             | (refine ⟨_, ⟨by decide, rfl⟩, ?_⟩)
             | (refine cond_i (fun h => ?_) (fun h => ?_)))
    all_goals (conv => whnf)
    all_goals rfl
  | false =>
    repeat' (conv => whnf
             first
             | (refine And.intro (Or.inl (by kernel_rfl)) ?_)
             | (refine And.intro (by kernel_rfl) ?_)
             | (refine And.intro ⟨by kernel_rfl, by kernel_rfl⟩ ?_)
             | (refine Or.inl ⟨_, no_none false, ?_⟩)
             | (refine ⟨_, no_none false, ?_⟩)
             | (refine cond_f ?_ ?_)
             | (refine ⟨_, ⟨by decide, rfl⟩, ?_⟩)
             | (refine cond_i (fun h => ?_) (fun h => ?_)))
    all_goals (conv => whnf)
    all_goals rfl
theorem no_Put (b : Bool) (o : Owner) : Fv Try.prog 10 [noT b, .agg o.g] (.int .i64 1) := by
  refine Fv.of_awp Try.func10 rfl (by kernel_rfl) rfl (Nat.le_of_ble_eq_true rfl) ?_
  cases b with
  | true =>
    repeat' (conv => whnf
             first
             | (refine And.intro (Or.inl (by kernel_rfl)) ?_)
             | (refine And.intro (by kernel_rfl) ?_)
             | (refine And.intro ⟨by kernel_rfl, by kernel_rfl⟩ ?_)
             | (refine Or.inl ⟨_, no_none true, ?_⟩)
             | (refine ⟨_, no_none true, ?_⟩)
             | (refine cond_f ?_ ?_)
             | (refine ⟨_, ⟨by decide, rfl⟩, ?_⟩)
             | (refine cond_i (fun h => ?_) (fun h => ?_)))
    all_goals (conv => whnf)
    all_goals rfl
  | false =>
    repeat' (conv => whnf
             first
             | (refine And.intro (Or.inl (by kernel_rfl)) ?_)
             | (refine And.intro (by kernel_rfl) ?_)
             | (refine And.intro ⟨by kernel_rfl, by kernel_rfl⟩ ?_)
             | (refine Or.inl ⟨_, no_none false, ?_⟩)
             | (refine ⟨_, no_none false, ?_⟩)
             | (refine cond_f ?_ ?_)
             | (refine ⟨_, ⟨by decide, rfl⟩, ?_⟩)
             | (refine cond_i (fun h => ?_) (fun h => ?_)))
    all_goals (conv => whnf)
    all_goals rfl
theorem no_Drop (b : Bool) (k : Sp.Key) : Fv Try.prog 23 [noT b, .agg k.g] (.bool false) := by
  refine Fv.of_awp Try.func23 rfl (by kernel_rfl) rfl (Nat.le_of_ble_eq_true rfl) ?_
  cases b with
  | true =>
    repeat' (conv => whnf
             first
             | (refine And.intro (Or.inl (by kernel_rfl)) ?_)
             | (refine And.intro (by kernel_rfl) ?_)
             | (refine And.intro ⟨by kernel_rfl, by kernel_rfl⟩ ?_)
             | (refine Or.inl ⟨_, no_none true, ?_⟩)
             | (refine ⟨_, no_none true, ?_⟩)
             | (refine cond_f ?_ ?_)
             | (refine ⟨_, ⟨by decide, rfl⟩, ?_⟩)
             | (refine cond_i (fun h => ?_) (fun h => ?_)))
    all_goals (conv => whnf)
    all_goals rfl
  | false =>
    repeat' (conv => whnf
             first
             | (refine And.intro (Or.inl (by kernel_rfl)) ?_)
             | (refine And.intro (by kernel_rfl) ?_)
             | (refine And.intro ⟨by kernel_rfl, by kernel_rfl⟩ ?_)
             | (refine Or.inl ⟨_, no_none false, ?_⟩)
             | (refine ⟨_, no_none false, ?_⟩)
             | (refine cond_f ?_ ?_)
             | (refine ⟨_, ⟨by decide, rfl⟩, ?_⟩)
             | (refine cond_i (fun h => ?_) (fun h => ?_)))
    all_goals (conv => whnf)
    all_goals rfl
theorem no_Keys (b : Bool) : Fv Try.prog 17 [noT b] (.sl []) := by
  refine Fv.of_awp Try.func17 rfl (by kernel_rfl) rfl (Nat.le_of_ble_eq_true rfl) ?_
  cases b with
  | true =>
    repeat' (conv => whnf
             first
             | (refine And.intro (Or.inl (by kernel_rfl)) ?_)
             | (refine And.intro (by kernel_rfl) ?_)
             | (refine And.intro ⟨by kernel_rfl, by kernel_rfl⟩ ?_)
             | (refine Or.inl ⟨_, no_none true, ?_⟩)
             | (refine ⟨_, no_none true, ?_⟩)
             | (refine cond_f ?_ ?_)
             | (refine ⟨_, ⟨by decide, rfl⟩, ?_⟩)
             | (refine cond_i (fun h => ?_) (fun h => ?_)))
    all_goals (conv => whnf)
    all_goals rfl
  | false =>
    repeat' (conv => whnf
             first
             | (refine And.intro (Or.inl (by kernel_rfl)) ?_)
             | (refine And.intro (by kernel_rfl) ?_)
             | (refine And.intro ⟨by kernel_rfl, by kernel_rfl⟩ ?_)
             | (refine Or.inl ⟨_, no_none false, ?_⟩)
             | (refine ⟨_, no_none false, ?_⟩)
             | (refine cond_f ?_ ?_)
             | (refine ⟨_, ⟨by decide, rfl⟩, ?_⟩)
             | (refine cond_i (fun h => ?_) (fun h => ?_)))
    all_goals (conv => whnf)
    all_goals rfl
theorem no_Under (b : Bool) (d : Sp.Id) : Fv Try.prog 24 [noT b, .agg d.g] (.sl []) := by
  refine Fv.of_awp Try.func24 rfl (by kernel_rfl) rfl (Nat.le_of_ble_eq_true rfl) ?_
  cases b with
  | true =>
    repeat' (conv => whnf
             first
             | (refine And.intro (Or.inl (by kernel_rfl)) ?_)
             | (refine And.intro (by kernel_rfl) ?_)
             | (refine And.intro ⟨by kernel_rfl, by kernel_rfl⟩ ?_)
             | (refine Or.inl ⟨_, no_none true, ?_⟩)
             | (refine ⟨_, no_none true, ?_⟩)
             | (refine cond_f ?_ ?_)
             | (refine ⟨_, ⟨by decide, rfl⟩, ?_⟩)
             | (refine cond_i (fun h => ?_) (fun h => ?_)))
    all_goals (conv => whnf)
    all_goals rfl
  | false =>
    repeat' (conv => whnf
             first
             | (refine And.intro (Or.inl (by kernel_rfl)) ?_)
             | (refine And.intro (by kernel_rfl) ?_)
             | (refine And.intro ⟨by kernel_rfl, by kernel_rfl⟩ ?_)
             | (refine Or.inl ⟨_, no_none false, ?_⟩)
             | (refine ⟨_, no_none false, ?_⟩)
             | (refine cond_f ?_ ?_)
             | (refine ⟨_, ⟨by decide, rfl⟩, ?_⟩)
             | (refine cond_i (fun h => ?_) (fun h => ?_)))
    all_goals (conv => whnf)
    all_goals rfl
theorem no_Index : Fv Try.prog 49 [.sl [], .fn 39 []] (.int .i64 (-1)) := by
  refine Fv.of_awp Try.func49 rfl (by kernel_rfl) rfl (Nat.le_of_ble_eq_true rfl) ?_
  repeat' (conv => whnf
           first
           | (refine And.intro (Or.inl (by kernel_rfl)) ?_)
           | (refine And.intro (by kernel_rfl) ?_)
           | (refine And.intro ⟨by kernel_rfl, by kernel_rfl⟩ ?_)
           | (refine cond_f ?_ ?_)
           | (refine ⟨_, ⟨by decide, rfl⟩, ?_⟩)
           | (refine cond_i (fun h => ?_) (fun h => ?_)))
  all_goals (conv => whnf)
  refine Has.ofN 1 ?_
  repeat' (conv => whnf
           first
           | (refine And.intro (Or.inl (by kernel_rfl)) ?_)
           | (refine And.intro (by kernel_rfl) ?_)
           | (refine And.intro ⟨by kernel_rfl, by kernel_rfl⟩ ?_)
           | (refine cond_f ?_ ?_)
           | (refine ⟨_, ⟨by decide, rfl⟩, ?_⟩)
           | (refine cond_i (fun h => ?_) (fun h => ?_)))
  all_goals (conv => whnf)
  all_goals rfl
theorem no_Delete : Fv Try.prog 38 [.sl [], .fn 39 []] (.sl []) := by
  refine Fv.of_awp Try.func38 rfl (by kernel_rfl) rfl (Nat.le_of_ble_eq_true rfl) ?_
  repeat' (conv => whnf
           first
           | (refine And.intro (Or.inl (by kernel_rfl)) ?_)
           | (refine And.intro (by kernel_rfl) ?_)
           | (refine And.intro ⟨by kernel_rfl, by kernel_rfl⟩ ?_)
           | (refine Or.inl ⟨_, no_Index, ?_⟩)
           | (refine ⟨_, no_Index, ?_⟩)
           | (refine cond_f ?_ ?_)
           | (refine ⟨_, ⟨by decide, rfl⟩, ?_⟩)
           | (refine cond_i (fun h => ?_) (fun h => ?_)))
  all_goals (conv => whnf)
  all_goals rfl
theorem no_Running (b : Bool) : Fv Try.prog 21 [noT b] (.sl []) := by
  refine Fv.of_awp Try.func21 rfl (by kernel_rfl) rfl (Nat.le_of_ble_eq_true rfl) ?_
  cases b with
  | true =>
    repeat' (conv => whnf
             first
             | (refine And.intro (Or.inl (by kernel_rfl)) ?_)
             | (refine And.intro (by kernel_rfl) ?_)
             | (refine And.intro ⟨by kernel_rfl, by kernel_rfl⟩ ?_)
             | (refine Or.inl ⟨_, no_Keys true, ?_⟩)
             | (refine ⟨_, no_Keys true, ?_⟩)
             | (refine Or.inl ⟨_, no_Delete, ?_⟩)
             | (refine ⟨_, no_Delete, ?_⟩)
             | (refine cond_f ?_ ?_)
             | (refine ⟨_, ⟨by decide, rfl⟩, ?_⟩)
             | (refine cond_i (fun h => ?_) (fun h => ?_)))
    all_goals (conv => whnf)
    all_goals rfl
  | false =>
    repeat' (conv => whnf
             first
             | (refine And.intro (Or.inl (by kernel_rfl)) ?_)
             | (refine And.intro (by kernel_rfl) ?_)
             | (refine And.intro ⟨by kernel_rfl, by kernel_rfl⟩ ?_)
             | (refine Or.inl ⟨_, no_Keys false, ?_⟩)
             | (refine ⟨_, no_Keys false, ?_⟩)
             | (refine Or.inl ⟨_, no_Delete, ?_⟩)
             | (refine ⟨_, no_Delete, ?_⟩)
             | (refine cond_f ?_ ?_)
             | (refine ⟨_, ⟨by decide, rfl⟩, ?_⟩)
             | (refine cond_i (fun h => ?_) (fun h => ?_)))
    all_goals (conv => whnf)
    all_goals rfl
set_option maxHeartbeats 8000000 in
theorem law24_TableNone (o : Owner) : Fv Try.prog 5 [.agg o.g] (.bool true) := by
  refine Fv.of_awp Try.func5 rfl (by kernel_rfl) rfl (Nat.le_of_ble_eq_true rfl) ?_
  by_cases hl : o.calls.length ≤ 10
  · have c0 : decide (((o.calls.map Call.g).length : Int) > 10) = false := by rw [List.length_map]; simp; omega
    have m := law23_MineB o (okC_10 hl)
    repeat' (conv => whnf
             first
             | (refine And.intro (Or.inl (by kernel_rfl)) ?_)
             | (refine And.intro (by kernel_rfl) ?_)
             | (refine And.intro ⟨by kernel_rfl, by kernel_rfl⟩ ?_)
             | (refine cond_0 c0 ?_)
             | (refine cond_f ?_ ?_)
             | (refine ⟨_, ⟨by decide, rfl⟩, ?_⟩)
             | (refine cond_i (fun h => ?_) (fun h => ?_)))
    all_goals (conv => whnf)
    refine Has.ofN 3 ?_
    repeat' (conv => whnf
             first
             | (refine And.intro (Or.inl (by kernel_rfl)) ?_)
             | (refine And.intro (by kernel_rfl) ?_)
             | (refine And.intro ⟨by kernel_rfl, by kernel_rfl⟩ ?_)
             | (refine Or.inl ⟨_, no_Get true o.key, ?_⟩)
             | (refine ⟨_, no_Get true o.key, ?_⟩)
             | (refine Or.inl ⟨_, no_Get false o.key, ?_⟩)
             | (refine ⟨_, no_Get false o.key, ?_⟩)
             | (refine Or.inl ⟨_, no_Caller true o.root, ?_⟩)
             | (refine ⟨_, no_Caller true o.root, ?_⟩)
             | (refine Or.inl ⟨_, no_Caller false o.root, ?_⟩)
             | (refine ⟨_, no_Caller false o.root, ?_⟩)
             | (refine Or.inl ⟨_, m, ?_⟩)
             | (refine ⟨_, m, ?_⟩)
             | (refine Or.inl ⟨_, no_Put true o, ?_⟩)
             | (refine ⟨_, no_Put true o, ?_⟩)
             | (refine Or.inl ⟨_, no_Put false o, ?_⟩)
             | (refine ⟨_, no_Put false o, ?_⟩)
             | (refine Or.inl ⟨_, no_Drop true o.key, ?_⟩)
             | (refine ⟨_, no_Drop true o.key, ?_⟩)
             | (refine Or.inl ⟨_, no_Drop false o.key, ?_⟩)
             | (refine ⟨_, no_Drop false o.key, ?_⟩)
             | (refine Or.inl ⟨_, no_Keys true, ?_⟩)
             | (refine ⟨_, no_Keys true, ?_⟩)
             | (refine Or.inl ⟨_, no_Keys false, ?_⟩)
             | (refine ⟨_, no_Keys false, ?_⟩)
             | (refine Or.inl ⟨_, no_Running true, ?_⟩)
             | (refine ⟨_, no_Running true, ?_⟩)
             | (refine Or.inl ⟨_, no_Running false, ?_⟩)
             | (refine ⟨_, no_Running false, ?_⟩)
             | (refine Or.inl ⟨_, no_Under true o.root, ?_⟩)
             | (refine ⟨_, no_Under true o.root, ?_⟩)
             | (refine Or.inl ⟨_, no_Under false o.root, ?_⟩)
             | (refine ⟨_, no_Under false o.root, ?_⟩)
             | (refine Or.inl ⟨_, law24_awake, ?_⟩)
             | (refine ⟨_, law24_awake, ?_⟩)
             | (refine cond_f ?_ ?_)
             | (refine ⟨_, ⟨by decide, rfl⟩, ?_⟩)
             | (refine cond_i (fun h => ?_) (fun h => ?_)))
    all_goals (conv => whnf)
    all_goals rfl
  · have c0 : decide (((o.calls.map Call.g).length : Int) > 10) = true := by rw [List.length_map]; simp; omega
    repeat' (conv => whnf
             first
             | (refine And.intro (Or.inl (by kernel_rfl)) ?_)
             | (refine And.intro (by kernel_rfl) ?_)
             | (refine And.intro ⟨by kernel_rfl, by kernel_rfl⟩ ?_)
             | (refine cond_1 c0 ?_)
             | (refine Or.inl ⟨_, law24_awake, ?_⟩)
             | (refine ⟨_, law24_awake, ?_⟩)
             | (refine cond_f ?_ ?_)
             | (refine ⟨_, ⟨by decide, rfl⟩, ?_⟩)
             | (refine cond_i (fun h => ?_) (fun h => ?_)))
    all_goals (conv => whnf)
    all_goals rfl
end Go.Proofs.Ytcihkmnolagdlaa.Cn
namespace Go.Proofs.Ytcihkmnolagdlaa.Av
open Go Go.RowKit Go.Deep Go.ChangeShapes Go.WideShapes
set_option linter.unusedVariables false

/-- Nothing is the call's own. -/
def C0 : Cx := Cx.out (fun _ => False)
structure Reads (w : World) (gs : List G) (cs : List Value) : Prop where
  len : cs.length = gs.length
  one : ∀ v ∈ cs, v.oneCell' = true
  rep : ∀ (i : Nat) g v, gs[i]? = some g → cs[i]? = some v → Rep C0 w g v
/-- Whatever is read as a value of type T reads as R x, and F holds of x. -/
def Opens {α : Type} (P : Program) (T : TypeId) (R : α → List G) (n : Nat) (F : α → Prop) : Prop :=
  P.cellsOf T = n ∧ (∀ x, (R x).length = n ∧ ∀ g ∈ R x, g.closed0 = true) ∧ ∀ (H : Type) (enc : TypeId × Value → H) (w : World) (spare : Nat → Bool) (held : Bool) (fuel : Nat) (cs : List Value) (d : DataW H) (ps : List MemPlace),
    DataW.trod enc P w 0 spare held fuel T cs = some (d, ps) → (∀ n ∈ d.weights P T, n ≤ reachBytes) → ∃ x, Reads w (R x) cs ∧ F x

theorem reads_one {w : World} {g : G} {v : Value} (hr : Rep C0 w g v) (hv : v.oneCell' = true) : Reads w [g] [v] :=
  ⟨rfl, fun u hu => by simp at hu; subst hu; exact hv, fun i g' v' hg hv' => by
    cases i with
    | zero => simp at hg hv'; subst hg; subst hv'; exact hr
    | succ i => simp at hg⟩
theorem Opens.imp {α : Type} {P : Program} {T : TypeId} {R : α → List G} {n : Nat} {F F' : α → Prop} (h : Opens P T R n F) (hi : ∀ x, F x → F' x) : Opens P T R n F' :=
  ⟨h.1, h.2.1, fun H enc w spare held fuel cs d ps ht hn => by
    obtain ⟨x, hK, hF⟩ := h.2.2 H enc w spare held fuel cs d ps ht hn
    exact ⟨x, hK, hi x hF⟩⟩
theorem opens_int {P : Program} {T : TypeId} {ik : IntKind} (hu : P.underlying T = some (.int ik)) (hc : P.cellsOf T = 1) : Opens P T (fun x : Int => [G.int ik x]) 1 (fun x => (Lit.int ik x).wf = true) :=
  ⟨hc, fun x => ⟨rfl, fun g hg => by simp at hg; subst hg; rfl⟩, fun H enc w spare held fuel cs d ps h _ => by
    obtain ⟨n, rfl, _, hw⟩ := DataW.trod_int hu h
    exact ⟨n, reads_one (.int _ _) rfl, hw⟩⟩
theorem opens_bool {P : Program} {T : TypeId} (hu : P.underlying T = some .bool) (hc : P.cellsOf T = 1) : Opens P T (fun x : Bool => [G.bool x]) 1 (fun _ => True) :=
  ⟨hc, fun x => ⟨rfl, fun g hg => by simp at hg; subst hg; rfl⟩, fun H enc w spare held fuel cs d ps h _ => by
    obtain ⟨b, rfl, _⟩ := DataW.trod_bool hu h
    exact ⟨b, reads_one (.bool _) rfl, trivial⟩⟩
theorem opens_string {P : Program} {T : TypeId} (hu : P.underlying T = some .string) (hc : P.cellsOf T = 1) : Opens P T (fun x : ByteArray => [G.str x]) 1 (fun s => s.size ≤ 140737488351232) :=
  ⟨hc, fun x => ⟨rfl, fun g hg => by simp at hg; subst hg; rfl⟩, fun H enc w spare held fuel cs d ps h hn => by
    obtain ⟨s, rfl, hx, _⟩ := DataW.trod_string hu h
    obtain ⟨rfl, rfl⟩ := Prod.mk.inj hx
    refine ⟨s, reads_one (.str _) rfl, ?_⟩
    have h1 := hn s.data.toList.length (by unfold DataW.weights; exact List.mem_singleton.2 rfl)
    have e2 : s.data.toList.length = s.size := by rw [Array.length_toList]; rfl
    rw [e2] at h1; exact h1⟩

theorem weights_mem_all {H : Type} {P : Program} {e : TypeId} : ∀ {ds : List (DataW H)} {d : DataW H}, d ∈ ds → ∀ n ∈ d.weights P e, n ∈ DataW.weightsAll P e ds
  | d0 :: ds, d, hd, n, hn => by
    simp only [DataW.weightsAll, List.mem_append]
    rcases List.mem_cons.1 hd with rfl | h
    · exact Or.inl hn
    · exact Or.inr (weights_mem_all h n hn)
theorem build_list {α : Type} (p : Nat → α → Prop) : ∀ n, (∀ i, i < n → ∃ x, p i x) → ∃ xs : List α, xs.length = n ∧ ∀ (i : Nat) (x : α), xs[i]? = some x → p i x
  | 0, _ => ⟨[], rfl, fun i x h => by simp at h⟩
  | n + 1, h => by
    obtain ⟨xs, hl, hp⟩ := build_list p n (fun i hi => h i (by omega))
    obtain ⟨x, hx⟩ := h n (by omega)
    refine ⟨xs ++ [x], by simp [hl], fun i y hy => ?_⟩
    by_cases hi : i < n
    · exact hp i y (by rwa [List.getElem?_append_left (by omega)] at hy)
    · rw [List.getElem?_append_right (by omega)] at hy
      obtain ⟨hz, hq⟩ : i - xs.length = 0 ∧ y = x := by
        cases hz : i - xs.length with
        | zero => rw [hz] at hy; simp at hy; exact ⟨rfl, hy.symm⟩
        | succ j => rw [hz] at hy; simp at hy
      have hin : i = n := by omega
      rw [hin, hq]; exact hx

theorem cell_block {w : World} {a : Addr} {v : Value} (h : w.cell? a = some v) : a.spot = none ∧ a.block < w.heap.size := by
  unfold World.cell? at h
  split at h
  · rename_i c _ _ hb
    split at h
    · cases h
    · rename_i hs
      exact ⟨by simpa using hs, (Array.getElem?_eq_some_iff.1 hb).1⟩
  · cases h

theorem opens_slice {α : Type} {P : Program} {T e : TypeId} {R : α → List G} {n : Nat} {F : α → Prop} (hu : P.underlying T = some (.slice e)) (hc : P.cellsOf T = 1) (hE : Opens P e R (n + 1) F) :
    Opens P T (fun xs : List α => [G.sl (xs.map R)]) 1 (fun xs => (∀ x ∈ xs, F x) ∧ xs.length * P.bytesOf e ≤ 140737488351232) :=
  ⟨hc, fun x => ⟨rfl, fun g hg => by simp at hg; subst hg; rfl⟩, fun H enc w spare held fuel cs d ps h hn => by
    rcases open_slice hu h with ⟨rfl, hx⟩ | ⟨a, len, cap, m, f, D, Pl, rfl, hb, hl, hm, hmm, hx, hel⟩
    · exact ⟨[], reads_one (.slnil none 0 (fun _ => rfl)) rfl, fun x hx => by simp at hx, by simp⟩
    · obtain ⟨rfl, rfl⟩ := Prod.mk.inj hx
      have hlm : len ≤ m := by rw [hmm]; split <;> omega
      have e0 : reachBytes = 140737488351232 := rfl
      have hW : ∀ i, i < len → ∀ n ∈ (D i).weights P e, n ≤ reachBytes := fun i hi n hni => hn n (by
        simp only [DataW.weights, hu, List.mem_cons, List.mem_append]
        exact Or.inr (Or.inl (weights_mem_all (List.mem_map.2 ⟨i, by simpa using hi, rfl⟩) n hni)))
      have hS : (len + (m - len)) * P.bytesOf e ≤ reachBytes := hn _ (by
        simp only [DataW.weights, hu, List.mem_cons]
        left; simp)
      obtain ⟨xs, hlen, hp⟩ := build_list (fun i x => ∃ cs', w.cells? 0 (a.add (i * (n + 1))) (n + 1) = some cs' ∧ Reads w (R x) cs' ∧ F x) len (fun i hi => by
        obtain ⟨cs', h1, h2⟩ := hel i (by omega)
        obtain ⟨x, hK, hF⟩ := hE.2.2 H enc w spare held f cs' _ _ h2 (hW i hi)
        exact ⟨x, cs', by rw [← hE.1]; exact h1, hK, hF⟩)
      subst hlen
      refine ⟨xs, reads_one ?_ rfl, fun x hx => ?_, ?_⟩
      · by_cases h0 : xs = []
        · subst h0; exact .slnil (some a) cap (fun e => by cases e)
        obtain ⟨x0, ys, rfl⟩ := List.exists_cons_of_ne_nil h0
        obtain ⟨hs, hlt⟩ : a.spot = none ∧ a.block < w.heap.size := by
          obtain ⟨cs', h1, hK, _⟩ := hp 0 x0 rfl
          obtain ⟨_, hl', hcc⟩ := World.cells?_some h1
          have := hcc 0 (by omega)
          rw [List.getElem?_eq_getElem (by omega)] at this
          have e1 : (a.add (0 * (n + 1))).add 0 = a := by simp [Addr.add]
          rw [e1] at this
          exact cell_block this
        generalize hxs : x0 :: ys = xs at *
        have hlm' : (xs.map R).length = xs.length := by simp
        rw [← hlm']
        refine .sl (xs.map R) a cap (n + 1) (fun i j => (w.cell? ⟨a.block, a.off + i * (n + 1) + j, none⟩).getD undef) hs hlt (fun h => h) (by rw [hlm']; omega) (fun r hr => ?_) (fun r hr g hg => ?_) (fun i r j g h1 h2 => ?_) (fun i r j g h1 h2 => ?_)
        · obtain ⟨x, _, rfl⟩ := List.mem_map.1 hr; exact (hE.2.1 x).1
        · obtain ⟨x, _, rfl⟩ := List.mem_map.1 hr; exact (hE.2.1 x).2 g hg
        all_goals
          rw [List.getElem?_map] at h1
          obtain ⟨x, hx, rfl⟩ := Option.map_eq_some_iff.1 h1
          obtain ⟨cs', q1, hK, _⟩ := hp i x hx
          obtain ⟨_, hl', hcc⟩ := World.cells?_some q1
          have hj : j < n + 1 := by rw [← (hE.2.1 x).1]; exact (List.getElem?_eq_some_iff.1 h2).1
          have hq := hcc j hj
          have ea : (a.add (i * (n + 1))).add j = ⟨a.block, a.off + i * (n + 1) + j, none⟩ := by
            rw [Deep.add_add]
            unfold Addr.add
            obtain ⟨ab, ao, asp⟩ := a
            simp only at hs; subst hs
            split
            · rename_i hz; simp [show i * (n + 1) = 0 by omega, show j = 0 by omega]
            · simp [Nat.add_assoc]
          rw [ea, List.getElem?_eq_getElem (by omega)] at hq
          rw [hq]
        · rfl
        · exact hK.rep j g _ h2 (List.getElem?_eq_getElem (by omega))
      · obtain ⟨i, hi⟩ := List.mem_iff_getElem?.1 hx
        obtain ⟨_, _, _, hF⟩ := hp i x hi
        exact hF
      · have : xs.length * P.bytesOf e ≤ (xs.length + (m - xs.length)) * P.bytesOf e := Nat.mul_le_mul_right _ (by omega)
        omega⟩

def OpensFs {α : Type} (P : Program) (fs : List Field) (off : Nat) (R : α → List G) (n : Nat) (F : α → Prop) : Prop :=
  (∀ x, (R x).length = n ∧ ∀ g ∈ R x, g.closed0 = true) ∧ ∀ (H : Type) (enc : TypeId × Value → H) (w : World) (spare : Nat → Bool) (held : Bool) (m : Nat) (cs : List Value) (xs : List (DataW H × List MemPlace)), cs.length = off + n → xs.length = fs.length →
    (∀ (i : Nat) (f : Field), fs[i]? = some f → DataW.trod enc P w 0 spare held m f.type ((cs.drop f.offset).take (P.cellsOf f.type)) = xs[i]?) →
    (∀ n ∈ DataW.weightsEach P (fs.map (·.type)) (xs.map (·.1)), n ≤ reachBytes) → ∃ x, Reads w (R x) (cs.drop off) ∧ F x
theorem fs_one {α : Type} {P : Program} {f : Field} {off : Nat} {R : α → List G} {n : Nat} {F : α → Prop} (ho : f.offset = off) (hO : Opens P f.type R n F) : OpensFs P [f] off R n F :=
  ⟨hO.2.1, fun H enc w spare held m cs xs hc hx hr hn => by
    subst ho
    match xs, hx with
    | [y], _ =>
      have h0 := hr 0 f rfl
      rw [hO.1, List.take_of_length_le (by rw [List.length_drop]; omega)] at h0
      exact hO.2.2 H enc w spare held m _ y.1 y.2 h0 (fun m hm => hn m (by simpa [DataW.weightsEach] using hm))⟩
theorem Reads.append {w : World} {gs hs : List G} {cs ds : List Value} (h : Reads w gs cs) (h' : Reads w hs ds) : Reads w (gs ++ hs) (cs ++ ds) :=
  ⟨by simp [h.len, h'.len], fun v hv => (List.mem_append.1 hv).elim (h.one v) (h'.one v), fun i g v hg hv => by
    by_cases hi : i < gs.length
    · rw [List.getElem?_append_left hi] at hg
      rw [List.getElem?_append_left (by rw [h.len]; exact hi)] at hv
      exact h.rep i g v hg hv
    · rw [List.getElem?_append_right (by omega)] at hg
      rw [List.getElem?_append_right (by rw [h.len]; omega), h.len] at hv
      exact h'.rep _ g v hg hv⟩
theorem fs_cons {α β : Type} {P : Program} {f : Field} {fs : List Field} {off off' : Nat} {R : α → List G} {R' : β → List G} {n n' : Nat} {F : α → Prop} {F' : β → Prop} (ho : f.offset = off) (ho' : off + n = off') (hO : Opens P f.type R n F) (hR : OpensFs P fs off' R' n' F') :
    OpensFs P (f :: fs) off (fun x : α × β => R x.1 ++ R' x.2) (n + n') (fun x => F x.1 ∧ F' x.2) :=
  ⟨fun x => ⟨by rw [List.length_append, (hO.2.1 x.1).1, (hR.1 x.2).1], fun g hg => (List.mem_append.1 hg).elim ((hO.2.1 x.1).2 g) ((hR.1 x.2).2 g)⟩, fun H enc w spare held m cs xs hc hx hr hn => by
    subst ho; subst ho'
    match xs, hx with
    | y :: ys, hx =>
      have h0 := hr 0 f rfl
      rw [hO.1] at h0
      obtain ⟨a, hK, hF⟩ := hO.2.2 H enc w spare held m _ y.1 y.2 h0 (fun m hm => hn m (by simp only [List.map_cons, DataW.weightsEach, List.mem_append]; exact Or.inl hm))
      obtain ⟨b, hK', hF'⟩ := hR.2 H enc w spare held m cs ys (by omega) (by simpa using hx) (fun i g hg => by simpa using hr (i + 1) g (by simpa using hg)) (fun m hm => hn m (by simp only [List.map_cons, DataW.weightsEach, List.mem_append]; exact Or.inr hm))
      refine ⟨(a, b), ?_, hF, hF'⟩
      have := hK.append hK'
      rwa [← List.drop_drop, List.take_append_drop] at this⟩
theorem opens_struct {α : Type} {P : Program} {T : TypeId} {fs : Array Field} {R : α → List G} {n : Nat} {F : α → Prop} (hu : P.underlying T = some (.struct fs)) (hc : P.cellsOf T = n) (hf : OpensFs P fs.toList 0 R n F) : Opens P T R n F :=
  ⟨hc, hf.1, fun H enc w spare held fuel cs d ps h hn => by
    obtain ⟨xs, m, _, hx, hl, hxl, hr⟩ := DataW.trod_struct hu h
    obtain ⟨rfl, rfl⟩ := Prod.mk.inj hx
    have := hf.2 H enc w spare held m cs xs (by omega) (by simpa using hxl) (fun i f hi => hr i f (by simpa using hi)) (fun m hm => hn m (by simp only [DataW.weights, hu]; exact hm))
    simpa using this⟩
/-- The same, in a type of one's own. -/
theorem opens_iso {α β : Type} {P : Program} {T : TypeId} {R : α → List G} {n : Nat} {F : α → Prop} (f : β → α) (g : α → β) (hfg : ∀ a, f (g a) = a) (hO : Opens P T R n F) {R' : β → List G} (hR : ∀ b, R' b = R (f b)) : Opens P T R' n (fun b => F (f b)) :=
  ⟨hO.1, fun x => by rw [hR]; exact hO.2.1 (f x), fun H enc w spare held fuel cs d ps h hn => by
    obtain ⟨x, hK, hF⟩ := hO.2.2 H enc w spare held fuel cs d ps h hn
    exact ⟨g x, by rw [hR, hfg]; exact hK, by show F (f (g x)); rw [hfg]; exact hF⟩⟩

/-- A value's cells as a value: a struct's, or another one's. -/
theorem param_struct {α H : Type} {P : Program} {T : TypeId} {fs : Array Field} {R : α → List G} {n : Nat} {F : α → Prop} {enc : TypeId × Value → H} {w : World} {r : Reach} {b : Nat} {spare : Nat → Bool} {held : Bool} {v : Value} {d : DataW H} {p : List MemPlace}
    (hu : P.underlying T = some (.struct fs)) (hO : Opens P T R n F) (hv : Value.okWide P w r b T v) (h : DataW.Trod enc P w 0 spare held T v d p) (hn : ∀ n ∈ d.weights P T, n ≤ reachBytes) :
    ∃ x, Rep C0 w (.agg (R x)) v ∧ F x := by
  obtain ⟨cs, rfl, _⟩ := okWide_struct hu hv
  obtain ⟨fuel, hf⟩ := h
  obtain ⟨x, hK, hF⟩ := hO.2.2 H enc w spare held fuel _ d p hf hn
  refine ⟨x, ?_, hF⟩
  have e : (Value.agg cs).cells.toList = cs.toList := rfl
  rw [e] at hK
  exact .agg _ cs.toList hK.len (fun g hg => closed0_cell ((hO.2.1 x).2 g hg)) hK.one hK.rep
theorem param_one {α H : Type} {P : Program} {T : TypeId} {R : α → List G} {g : α → G} {F : α → Prop} {enc : TypeId × Value → H} {w : World} {spare : Nat → Bool} {held : Bool} {v : Value} {d : DataW H} {p : List MemPlace}
    (hO : Opens P T R 1 F) (hR : ∀ x, R x = [g x]) (hc : v.cells = #[v]) (h : DataW.Trod enc P w 0 spare held T v d p) (hn : ∀ n ∈ d.weights P T, n ≤ reachBytes) :
    ∃ x, Rep C0 w (g x) v ∧ F x := by
  obtain ⟨fuel, hf⟩ := h
  rw [hc] at hf
  obtain ⟨x, hK, hF⟩ := hO.2.2 H enc w spare held fuel _ d p hf hn
  exact ⟨x, hK.rep 0 _ _ (by rw [hR]; rfl) rfl, hF⟩
theorem param_slice {α H : Type} {P : Program} {T e : TypeId} {R : α → List G} {g : α → G} {F : α → Prop} {enc : TypeId × Value → H} {w : World} {r : Reach} {b : Nat} {spare : Nat → Bool} {held : Bool} {v : Value} {d : DataW H} {p : List MemPlace}
    (hu : P.underlying T = some (.slice e)) (hO : Opens P T R 1 F) (hR : ∀ x, R x = [g x]) (hv : Value.okWide P w r b T v) (h : DataW.Trod enc P w 0 spare held T v d p) (hn : ∀ n ∈ d.weights P T, n ≤ reachBytes) :
    ∃ x, Rep C0 w (g x) v ∧ F x := by
  obtain ⟨a, len, cap, rfl⟩ := okWide_slice hu hv
  exact param_one hO hR rfl h hn
theorem param_int {α H : Type} {P : Program} {T : TypeId} {ik : IntKind} {R : α → List G} {g : α → G} {F : α → Prop} {enc : TypeId × Value → H} {w : World} {r : Reach} {b : Nat} {spare : Nat → Bool} {held : Bool} {v : Value} {d : DataW H} {p : List MemPlace}
    (hu : P.underlying T = some (.int ik)) (hO : Opens P T R 1 F) (hR : ∀ x, R x = [g x]) (hv : Value.okWide P w r b T v) (h : DataW.Trod enc P w 0 spare held T v d p) (hn : ∀ n ∈ d.weights P T, n ≤ reachBytes) :
    ∃ x, Rep C0 w (g x) v ∧ F x := by
  obtain ⟨m, rfl⟩ := okWide_int hu hv
  exact param_one hO hR rfl h hn
theorem param_bool {α H : Type} {P : Program} {T : TypeId} {R : α → List G} {g : α → G} {F : α → Prop} {enc : TypeId × Value → H} {w : World} {r : Reach} {b : Nat} {spare : Nat → Bool} {held : Bool} {v : Value} {d : DataW H} {p : List MemPlace}
    (hu : P.underlying T = some .bool) (hO : Opens P T R 1 F) (hR : ∀ x, R x = [g x]) (hv : Value.okWide P w r b T v) (h : DataW.Trod enc P w 0 spare held T v d p) (hn : ∀ n ∈ d.weights P T, n ≤ reachBytes) :
    ∃ x, Rep C0 w (g x) v ∧ F x := by
  obtain ⟨m, rfl⟩ := okWide_bool hu hv
  exact param_one hO hR rfl h hn
theorem param_string {α H : Type} {P : Program} {T : TypeId} {R : α → List G} {g : α → G} {F : α → Prop} {enc : TypeId × Value → H} {w : World} {r : Reach} {b : Nat} {spare : Nat → Bool} {held : Bool} {v : Value} {d : DataW H} {p : List MemPlace}
    (hu : P.underlying T = some .string) (hO : Opens P T R 1 F) (hR : ∀ x, R x = [g x]) (hv : Value.okWide P w r b T v) (h : DataW.Trod enc P w 0 spare held T v d p) (hn : ∀ n ∈ d.weights P T, n ≤ reachBytes) :
    ∃ x, Rep C0 w (g x) v ∧ F x := by
  obtain ⟨m, rfl⟩ := okWide_string hu hv
  exact param_one hO hR rfl h hn
/-- A parameter's weights, out of all. -/
theorem param_weights {H : Type} {P : Program} {ts : List TypeId} {ds : List (DataW H)} (h : (DataW.weightsEach P ts ds).all (· ≤ reachBytes) = true) {j : Nat} {t : TypeId} {d : DataW H} (ht : ts[j]? = some t) (hd : ds[j]? = some d) : ∀ n ∈ d.weights P t, n ≤ reachBytes :=
  fun n hn => by simpa using List.all_eq_true.1 h n (DataW.weights_mem_each ht hd n hn)

/-- A call of a law, by what its arguments read as. -/
theorem Fv.calls {P : Program} {f : FuncId} {gs : List G} {b : Bool} (h : Fv P f gs (.bool b)) {w : World} (hfx : Fixed w C0.ex) {vs : List Value} (hl : vs.length = gs.length) (hr : ∀ (i : Nat) g v, gs[i]? = some g → vs[i]? = some v → Rep C0 w g v) :
    Calls P f ⟨vs⟩ w fun e w' => e = .returned (.bool b) ∧ Below w.heap.size w w' := by
  refine (h.2 C0 w (fun _ => False) vs hl hr (mem0 w _ (fun B h => h.elim)) (fun B h => h.elim) (fun b B h => by cases h) (fun k B s sz n h => by cases h) hfx).mono fun e w' ⟨v, C', g, bs, rs, he, hR, hv, hM, hE⟩ => ?_
  obtain ⟨rfl, _, _⟩ := hR
  cases hv
  exact ⟨he, ⟨hE.fr.os, hE.fr.tape, hE.fr.output, hE.fr.size, fun B hB => hE.fr.block B hB (fun h => h)⟩⟩
end Go.Proofs.Ytcihkmnolagdlaa.Av
