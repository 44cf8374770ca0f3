
/- Contracts: events of an attempt. No condition but lengths. -/
import Derived.Test.YtcihkmnolagdlaaDoorSp1
import Derived.Test.YtcihkmnolagdlaaDoorCn0
import Derived.Test.YtcihkmnolagdlaaDoorSp21
import Derived.Test.YtcihkmnolagdlaaDoorProg
import Derived.KernelRfl
import Derived.Test.YtcihkmnolagdlaaDoorCn96
import Derived.Test.YtcihkmnolagdlaaDoorSp6
import Derived.Test.YtcihkmnolagdlaaDoorAv18
namespace Go.Proofs.YtcihkmnolagdlaaDoor.Cn
open Go Go.Proofs Go.Proofs.YtcihkmnolagdlaaDoor.Av Go.Proofs.YtcihkmnolagdlaaDoor.Sp
set_option linter.unusedVariables false
set_option linter.unusedSimpArgs false
set_option linter.unusedSectionVars false
set_option maxRecDepth 100000
attribute [local irreducible] Fv Fp

/-- An event of an attempt. -/
def keyP (k : Sp.Key) (e : Ev) : Bool := !(e.kind == 9 || !(decide (e.key = k)))
theorem ev_Key1 (e : Ev) (k : Sp.Key) : Fv Tryd.prog 43 [.agg e.g, .elt k.g 0] (.bool (!(keyP k e))) := by
  have e0 := key_eqB e.key k
  unfold keyP
  rw [← e0]
  by_cases h : e.kind = 9
  · have b1 : (e.kind == 9) = true := by simpa using h
    rw [b1]
    refine Fv.of_awp Tryd.func43 rfl (by kernel_rfl) rfl (Nat.le_of_ble_eq_true rfl) ?_
    repeat' (conv => whnf
             first
             | (refine And.intro (by kernel_rfl) ?_)
             | (refine And.intro ⟨by kernel_rfl, by kernel_rfl⟩ ?_)
             | (refine cond_1 b1 ?_)
             | (refine cond_f ?_ ?_)
             | (refine ⟨_, ⟨by decide, rfl⟩, ?_⟩)
             | (refine cond_i (fun h => ?_) (fun h => ?_)))
    all_goals (conv => whnf)
    all_goals first | rfl | exact congrArg G.bool b1
  · have b1 : (e.kind == 9) = false := by simpa using h
    rw [b1]
    refine Fv.of_awp Tryd.func43 rfl (by kernel_rfl) rfl (Nat.le_of_ble_eq_true rfl) ?_
    repeat' (conv => whnf
             first
             | (refine And.intro (by kernel_rfl) ?_)
             | (refine And.intro ⟨by kernel_rfl, by kernel_rfl⟩ ?_)
             | (refine cond_0 b1 ?_)
             | (refine cond_f ?_ ?_)
             | (refine ⟨_, ⟨by decide, rfl⟩, ?_⟩)
             | (refine cond_i (fun h => ?_) (fun h => ?_)))
    all_goals (conv => whnf)
    all_goals simp only [Bool.false_or, Bool.not_not]
set_option maxHeartbeats 4000000 in
theorem ev_IndexK (l : List Ev) (k : Sp.Key) (hs : l.length ≤ 1000) : Fv Tryd.prog 58 [.sl (l.map Ev.g), .fn 43 [.elt k.g 0]]
    (.int .i64 (idxB (fun e => !(keyP k e)) l)) := by
  refine Fv.of_awp Tryd.func58 rfl (by kernel_rfl) rfl (Nat.le_of_ble_eq_true rfl) ?_
  repeat' (conv => whnf
           first
           | (refine And.intro (by kernel_rfl) ?_)
           | (refine And.intro ⟨by kernel_rfl, by kernel_rfl⟩ ?_)
           | (refine cond_f ?_ ?_)
           | (refine ⟨_, ⟨by decide, rfl⟩, ?_⟩)
           | (refine cond_i (fun h => ?_) (fun h => ?_)))
  all_goals (conv => whnf)
  refine Has.each [0, 1, 7, 8] [] l.length (fun j (_ : Unit) => idxB (fun e => !(keyP k e)) (l.take j) = -1) (fun _ i =>
    St.of 19 [(0, .sl (l.map Ev.g)), (1, .fn 43 [.elt k.g 0]), (7, .int .i64 ((l.map Ev.g).length : Nat)), (8, .int .i64 i)] [] []) ⟨(), _, rfl, rfl, rfl⟩ (fun j _ hj hI => ?_) (fun _ hI => ?_)
  · have f1 := row_at (R := Ev.g) hj
    have hF := ev_Key1 l[j] k
    cases hb : (!(keyP k l[j])) with
    | true =>
      rw [hb] at hF
      refine awp_go ?_
      repeat' (conv => whnf
               first
               | (refine And.intro (by kernel_rfl) ?_)
               | (refine And.intro ⟨by kernel_rfl, by kernel_rfl⟩ ?_)
               | (refine cond_1 (lt_at hj) ?_)
               | (refine ⟨_, f1, ?_⟩)
               | (refine Or.inl ⟨_, hF, ?_⟩)
               | (refine ⟨_, hF, ?_⟩)
               | (refine cond_f ?_ ?_)
               | (refine ⟨_, ⟨by decide, rfl⟩, ?_⟩)
               | (refine cond_i (fun h => ?_) (fun h => ?_)))
      all_goals (conv => whnf)
      rw [idx_hit hj hI hb]
    | false =>
      rw [hb] at hF
      refine awp_go ?_
      repeat' (conv => whnf
               first
               | (refine And.intro (by kernel_rfl) ?_)
               | (refine And.intro ⟨by kernel_rfl, by kernel_rfl⟩ ?_)
               | (refine cond_1 (lt_at hj) ?_)
               | (refine ⟨_, f1, ?_⟩)
               | (refine Or.inl ⟨_, hF, ?_⟩)
               | (refine ⟨_, hF, ?_⟩)
               | (refine cond_f ?_ ?_)
               | (refine ⟨_, ⟨by decide, rfl⟩, ?_⟩)
               | (refine cond_i (fun h => ?_) (fun h => ?_)))
      all_goals (conv => whnf)
      exact ⟨(), _, rfl, idx_step hj hI hb, up1 hj (by omega)⟩
  · rw [List.take_length] at hI
    rw [hI]
    refine awp_go ?_
    repeat' (conv => whnf
             first
             | (refine And.intro (by kernel_rfl) ?_)
             | (refine And.intro ⟨by kernel_rfl, by kernel_rfl⟩ ?_)
             | (refine cond_0 lt_end ?_)
             | (refine cond_f ?_ ?_)
             | (refine ⟨_, ⟨by decide, rfl⟩, ?_⟩)
             | (refine cond_i (fun h => ?_) (fun h => ?_)))
    all_goals (conv => whnf)
    all_goals rfl
set_option maxHeartbeats 8000000 in
theorem ev_DeleteK (l : List Ev) (k : Sp.Key) (hs : l.length ≤ 1000) : Fp Tryd.prog 40 [.own 0 0 l.length, .fn 43 [.elt k.g 0]] [] [l.map Ev.g]
    (.own 0 0 (l.filter fun e => keyP k e).length, [], [some ((l.filter fun e => keyP k e).map Ev.g ++ List.replicate (l.length - (l.filter fun e => keyP k e).length) zEv)]) := by
  have hx := ev_IndexK l k hs
  refine Fp.of_awp Tryd.func40 rfl (by kernel_rfl) (Nat.le_of_ble_eq_true rfl) ?_
  rcases idx_cases (fun e : Ev => keyP k e) l with ⟨h1, h2⟩ | ⟨i, hi, h1, h2⟩
  · have h1' : idxB (fun e : Ev => !(keyP k e)) l = -1 := h1
    rw [h1'] at hx
    rw [h2, Nat.sub_self]
    simp only [List.replicate_zero, List.append_nil]
    repeat' (conv => whnf
             first
             | (refine And.intro (by kernel_rfl) ?_)
             | (refine And.intro ⟨by kernel_rfl, by kernel_rfl⟩ ?_)
             | (refine Or.inl ⟨_, hx, ?_⟩)
             | (refine ⟨_, hx, ?_⟩)
             | (refine ⟨own_le1, ?_⟩)
             | (rw [own_all1])
             | (refine Or.inl ?_)
             | (refine cond_f ?_ ?_)
             | (refine ⟨_, ⟨by decide, rfl⟩, ?_⟩)
             | (refine cond_i (fun h => ?_) (fun h => ?_)))
    all_goals (conv => whnf)
    all_goals rfl
  · have h1' : idxB (fun e : Ev => !(keyP k e)) l = (i : Int) := h1
    rw [h1'] at hx
    have b1 : ((i : Int) == -1) = false := by simp
    repeat' (conv => whnf
             first
             | (refine And.intro (by kernel_rfl) ?_)
             | (refine And.intro ⟨by kernel_rfl, by kernel_rfl⟩ ?_)
             | (refine Or.inl ⟨_, hx, ?_⟩)
             | (refine ⟨_, hx, ?_⟩)
             | (refine ⟨own_le1, ?_⟩)
             | (rw [own_all1])
             | (refine cond_0 b1 ?_)
             | (refine Or.inl ?_)
             | (refine cond_f ?_ ?_)
             | (refine ⟨_, ⟨by decide, rfl⟩, ?_⟩)
             | (refine cond_i (fun h => ?_) (fun h => ?_)))
    all_goals (conv => whnf)
    refine Has.each [0, 1, 5, 6] [7] (l.length - (i + 1)) (fun j b => DelJ (fun e : Ev => keyP k e) l (i + 1) j b) (fun b _ =>
      St.ofP 42 0 1 [(0, .own 50 0 l.length), (1, .fn 43 [.elt k.g 0]), (5, .int .i64 b.i), (6, .int .i64 b.j)] [] [(50, b.R.map Ev.g)])
      ⟨⟨l, (i : Int), IntKind.i64.wrap ((i : Int) + 1)⟩, _, rfl, ⟨i, rfl, wrap_i64 (by omega), ⟨rfl, ⟨by omega, by omega⟩, h2.symm, rfl⟩⟩, rfl⟩ (fun j b hj hI => ?_) (fun b hI => ?_)
    · obtain ⟨R, bi, bj⟩ := b
      obtain ⟨c, rfl, rfl, hD⟩ := hI
      simp only at *
      have hJ : i + 1 + j < l.length := by omega
      have hR := hD.at hJ
      have hs2 := hD.step hJ
      have hRl := hD.len
      have hcJ := hD.le
      have f1 : 0 ≤ ((i + 1 + j : Nat) : Int) ∧ ((i + 1 + j : Nat) : Int) < ((l.length : Nat) : Int) ∧ (R.map Ev.g)[(0 : Nat) + (((i + 1 + j : Nat) : Int)).toNat]? = some (Ev.g l[i + 1 + j]) := ⟨by omega, by omega, by rw [Nat.zero_add, Int.toNat_natCast, List.getElem?_map, hR]; rfl⟩
      have f2 := f1.2.2
      have hF := ev_Key1 l[i + 1 + j] k
      have c1 : decide (((i + 1 + j : Nat) : Int) < ((l.length : Nat) : Int)) = true := decide_eq_true (by omega)
      have wj : IntKind.i64.wrap (((i + 1 + j : Nat) : Int) + 1) = ((i + 1 + (j + 1) : Nat) : Int) := by rw [wrap_i64 (by omega)]; omega
      cases hb : (keyP k l[i + 1 + j]) with
      | false =>
        have hb' : (!(keyP k l[i + 1 + j])) = true := by rw [hb]; rfl
        rw [hb'] at hF
        refine awp_go ?_
        repeat' (conv => whnf
                 first
                 | (refine And.intro (by kernel_rfl) ?_)
                 | (refine And.intro ⟨by kernel_rfl, by kernel_rfl⟩ ?_)
                 | (refine cond_1 c1 ?_)
                 | (refine ⟨_, f1, ?_⟩)
                 | (refine ⟨_, f2, ?_⟩)
                 | (refine Or.inl ⟨_, hF, ?_⟩)
                 | (refine ⟨_, hF, ?_⟩)
                 | (refine cond_f ?_ ?_)
                 | (refine ⟨_, ⟨by decide, rfl⟩, ?_⟩)
                 | (refine cond_i (fun h => ?_) (fun h => ?_)))
        all_goals (conv => whnf)
        exact ⟨⟨R, (c : Int), _⟩, _, rfl, ⟨c, rfl, wj, hs2.1 hb⟩, rfl⟩
      | true =>
        have hb' : (!(keyP k l[i + 1 + j])) = false := by rw [hb]; rfl
        rw [hb'] at hF
        have hcl : c < R.length := by omega
        have g1 : 0 ≤ ((c : Nat) : Int) ∧ ((c : Nat) : Int) < ((l.length : Nat) : Int) ∧ (R.map Ev.g)[(0 : Nat) + (((c : Nat) : Int)).toNat]? = some (Ev.g R[c]) := ⟨by omega, by omega, by rw [Nat.zero_add, Int.toNat_natCast, List.getElem?_map, List.getElem?_eq_getElem hcl]; rfl⟩
        have g2 : (R.map Ev.g)[(0 : Nat) + (((c : Nat) : Int)).toNat]? = some (Ev.g R[c]) ∧ 0 + Tryd.prog.cellsOf 30 ≤ (Ev.g R[c]).length := ⟨g1.2.2, Nat.le_of_ble_eq_true (by kernel_rfl)⟩
        have wc : IntKind.i64.wrap (((c : Nat) : Int) + 1) = ((c + 1 : Nat) : Int) := by rw [wrap_i64 (by omega)]; omega
        refine awp_go ?_
        repeat' (conv => whnf
                 first
                 | (refine And.intro (by kernel_rfl) ?_)
                 | (refine And.intro ⟨by kernel_rfl, by kernel_rfl⟩ ?_)
                 | (refine cond_1 c1 ?_)
                 | (refine ⟨_, f1, ?_⟩)
                 | (refine ⟨_, f2, ?_⟩)
                 | (refine Or.inl ⟨_, hF, ?_⟩)
                 | (refine ⟨_, hF, ?_⟩)
                 | (refine ⟨_, g1, ?_⟩)
                 | (refine ⟨_, g2, ?_⟩)
                 | (refine cond_f ?_ ?_)
                 | (refine ⟨_, ⟨by decide, rfl⟩, ?_⟩)
                 | (refine cond_i (fun h => ?_) (fun h => ?_)))
        all_goals (conv => whnf)
        refine ⟨⟨R.set c l[i + 1 + j], _, _⟩, _, ?_, ⟨c + 1, wc, wj, hs2.2 hb⟩, rfl⟩
        rw [List.map_set]
        have e0 : (0 : Nat) + (((c : Nat) : Int)).toNat = c := by rw [Nat.zero_add, Int.toNat_natCast]
        rw [show (R.map Ev.g).set c (Ev.g l[i + 1 + j]) = (R.map Ev.g).set ((0 : Nat) + (((c : Nat) : Int)).toNat) (Ev.g l[i + 1 + j]) from congrArg (fun x => (R.map Ev.g).set x (Ev.g l[i + 1 + j])) e0.symm]
        rfl
    · obtain ⟨R, bi, bj⟩ := b
      obtain ⟨c, rfl, rfl, hD⟩ := hI
      simp only at *
      have hRl := hD.len
      have hcJ := hD.le
      have hJ : i + 1 + (l.length - (i + 1)) = l.length := by omega
      rw [hJ] at hD ⊢
      obtain ⟨r1, r2⟩ := del_row hD rfl
      have c1 : decide (((l.length : Nat) : Int) < ((l.length : Nat) : Int)) = false := decide_eq_false (by omega)
      have g1 : (0 : Int) ≤ ((c : Nat) : Int) ∧ ((c : Nat) : Int) ≤ ((l.length : Nat) : Int) ∧ ((l.length : Nat) : Int) ≤ ((l.length : Nat) : Int) ∧ ∀ r ∈ R.map Ev.g, r.length = Tryd.prog.cellsOf 30 := ⟨by omega, by omega, by omega, ev_len⟩
      have g2 : 0 + (((c : Nat) : Int)).toNat + (l.length - (((c : Nat) : Int)).toNat) ≤ (R.map Ev.g).length ∧ ∀ r ∈ R.map Ev.g, r.length = Tryd.prog.cellsOf 30 := ⟨by rw [List.length_map]; omega, ev_len⟩
      have g3 : (0 : Int) ≤ 0 ∧ (0 : Int) ≤ ((c : Nat) : Int) ∧ ((c : Nat) : Int) ≤ ((l.length : Nat) : Int) ∧ ∀ r ∈ (R.map Ev.g).take (0 + (((c : Nat) : Int)).toNat) ++ List.replicate (l.length - (((c : Nat) : Int)).toNat) zEv ++ (R.map Ev.g).drop (0 + (((c : Nat) : Int)).toNat + (l.length - (((c : Nat) : Int)).toNat)), r.length = Tryd.prog.cellsOf 30 := ⟨by omega, by omega, by omega, fun r hr => by
        rw [List.mem_append, List.mem_append] at hr
        rcases hr with (hr | hr) | hr
        · exact ev_len r (List.mem_of_mem_take hr)
        · rw [List.eq_of_mem_replicate hr, evcells]; rfl
        · exact ev_len r (List.mem_of_mem_drop hr)⟩
      refine awp_go ?_
      rw [← r1, ← r2]
      repeat' (conv => whnf
               first
               | (refine And.intro (by kernel_rfl) ?_)
               | (refine And.intro ⟨by kernel_rfl, by kernel_rfl⟩ ?_)
               | (refine cond_0 c1 ?_)
               | (refine ⟨g1, ?_⟩)
               | (refine ⟨g2, ?_⟩)
               | (refine ⟨g3, ?_⟩)
               | (refine cond_f ?_ ?_)
               | (refine ⟨_, ⟨by decide, rfl⟩, ?_⟩)
               | (refine cond_i (fun h => ?_) (fun h => ?_)))
      all_goals (conv => whnf)
      all_goals rfl
theorem key_le {l : List Ev} {k : Sp.Key} : 0 + (l.filter fun e => keyP k e).length ≤ ((l.filter fun e => keyP k e).map Ev.g ++ List.replicate (l.length - (l.filter fun e => keyP k e).length) zEv).length := by simp
theorem key_all {l : List Ev} {k : Sp.Key} : (((l.filter fun e => keyP k e).map Ev.g ++ List.replicate (l.length - (l.filter fun e => keyP k e).length) zEv).drop 0).take (l.filter fun e => keyP k e).length = (l.filter fun e => keyP k e).map Ev.g := by
  rw [List.drop_zero]; exact List.take_left' (by simp)
theorem ev_Key (l : List Ev) (k : Sp.Key) (hs : l.length ≤ 1000) : Fv Tryd.prog 13 [.sl (l.map Ev.g), .agg k.g] (.sl ((l.filter fun e => keyP k e).map Ev.g)) := by
  have n1 := ev_Clone l hs
  have n2 : Fp Tryd.prog 40 [.own 0 0 l.length, .fn 43 [.ptr 0 0]] [k.g] [l.map Ev.g]
    (.own 0 0 (l.filter fun e => keyP k e).length, [some k.g], [some ((l.filter fun e => keyP k e).map Ev.g ++ List.replicate (l.length - (l.filter fun e => keyP k e).length) zEv)]) := by
    have fl : ∀ (m : List Ev), ∀ r ∈ m.map Ev.g, ∀ x ∈ r, x.flat0 = true := fun m r hr x hx => by
      obtain ⟨e, _, rfl⟩ := List.mem_map.1 hr
      simp only [Ev.g, List.mem_cons, List.not_mem_nil, or_false] at hx
      rcases hx with rfl | rfl | rfl | rfl | rfl | rfl | rfl | rfl | rfl | rfl | rfl | rfl | rfl | rfl | rfl | rfl | rfl | rfl <;> rfl
    refine Fp.lendBox (fun x hx => ?_) (fun xs hx r hr x hx' => ?_) (fun xs hx r hr x hx' => ?_) (ev_DeleteK l k hs)
    · simp only [Sp.Key.g, List.mem_cons, List.not_mem_nil, or_false] at hx; rcases hx with rfl | rfl | rfl | rfl <;> rfl
    · simp only [List.mem_cons, List.not_mem_nil, or_false] at hx; subst hx; exact fl l r hr x hx'
    · simp only [List.mem_cons, List.not_mem_nil, or_false, Option.some.injEq] at hx; subst hx
      rcases List.mem_append.1 hr with hr | hr
      · exact fl _ r hr x hx'
      · rw [List.eq_of_mem_replicate hr] at hx'
        rw [List.eq_of_mem_replicate hx']; rfl
  refine Fv.of_awp Tryd.func13 rfl (by kernel_rfl) rfl (Nat.le_of_ble_eq_true rfl) ?_
  repeat' (conv => whnf
           first
           | (refine And.intro (by kernel_rfl) ?_)
           | (refine And.intro ⟨by kernel_rfl, by kernel_rfl⟩ ?_)
           | (refine Or.inr ⟨_, n1, ?_⟩)
           | (refine Or.inr ⟨_, n2, ?_⟩)
           | (refine ⟨key_le, ?_⟩)
           | (rw [key_all])
           | (refine cond_f ?_ ?_)
           | (refine ⟨_, ⟨by decide, rfl⟩, ?_⟩)
           | (refine cond_i (fun h => ?_) (fun h => ?_)))
  all_goals (conv => whnf)
  all_goals rfl
end Go.Proofs.YtcihkmnolagdlaaDoor.Cn
