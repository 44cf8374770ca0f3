
/- Contracts: events of a kind. No condition but lengths. -/
import Derived.Test.YtcihkmnolagdlaaDoorSp1
import Derived.Test.YtcihkmnolagdlaaDoorCn0
import Derived.Test.YtcihkmnolagdlaaDoorSp21
import Derived.Test.YtcihkmnolagdlaaDoorProg
import Derived.KernelRfl
import Derived.Test.YtcihkmnolagdlaaDoorCn94
import Derived.Test.YtcihkmnolagdlaaDoorAv18
namespace Go.Proofs.YtcihkmnolagdlaaDoor.Cn
open Go Go.Proofs Go.Proofs.YtcihkmnolagdlaaDoor.Av Go.Proofs.YtcihkmnolagdlaaDoor.Sp
set_option linter.unusedVariables false
set_option linter.unusedSimpArgs false
set_option linter.unusedSectionVars false
set_option maxRecDepth 100000
attribute [local irreducible] Fv Fp

structure DelB where
  R : List Ev
  i : Int
  j : Int
def DelJ (p : Ev → Bool) (l : List Ev) (s k : Nat) (b : DelB) : Prop := ∃ i : Nat, b.i = (i : Int) ∧ b.j = ((s + k : Nat) : Int) ∧ DelI p l b.R i (s + k)
theorem evcells : Tryd.prog.cellsOf 30 = 18 := by kernel_rfl
theorem ev_len {l : List Ev} : ∀ r ∈ l.map Ev.g, r.length = Tryd.prog.cellsOf 30 := fun r hr => by obtain ⟨x, _, rfl⟩ := List.mem_map.1 hr; rw [evcells]; rfl
theorem del_row {l R : List Ev} {p : Ev → Bool} {i J : Nat} (h : DelI p l R i J) (hJ : J = l.length) : (R.map Ev.g).take (0 + i) ++ List.replicate (l.length - i) zEv ++ (R.map Ev.g).drop (0 + i + (l.length - i)) = (l.filter p).map Ev.g ++ List.replicate (l.length - (l.filter p).length) zEv ∧ i = (l.filter p).length := by
  obtain ⟨h1, ⟨h2, h3⟩, h4, h5⟩ := h
  subst hJ
  rw [List.take_length] at h4
  have hi : i = (l.filter p).length := by rw [← h4, List.length_take]; omega
  refine ⟨?_, hi⟩
  rw [Nat.zero_add, ← List.map_take, h4, ← hi, List.drop_eq_nil_of_le (by simp; omega), List.append_nil]
set_option maxHeartbeats 8000000 in
theorem ev_DeleteE (l : List Ev) (k : Int) (hs : l.length ≤ 1000) : Fp Tryd.prog 40 [.own 0 0 l.length, .fn 42 [.elt [.int .i64 k] 0]] [] [l.map Ev.g]
    (.own 0 0 (l.filter fun e => e.kind == k).length, [], [some ((l.filter fun e => e.kind == k).map Ev.g ++ List.replicate (l.length - (l.filter fun e => e.kind == k).length) zEv)]) := by
  have hx := ev_IndexO l k hs
  refine Fp.of_awp Tryd.func40 rfl (by kernel_rfl) (Nat.le_of_ble_eq_true rfl) ?_
  rcases idx_cases (fun e : Ev => e.kind == k) l with ⟨h1, h2⟩ | ⟨i, hi, h1, h2⟩
  · have h1' : idxB (fun e : Ev => e.kind != k) l = -1 := h1
    rw [h1'] at hx
    rw [h2, Nat.sub_self]
    simp only [List.replicate_zero, List.append_nil]
    repeat' (conv => whnf
             first
             | (refine And.intro (by kernel_rfl) ?_)
             | (refine And.intro ⟨by kernel_rfl, by kernel_rfl⟩ ?_)
             | (refine Or.inl ⟨_, hx, ?_⟩)
             | (refine ⟨_, hx, ?_⟩)
             | (refine ⟨own_le1, ?_⟩)
             | (rw [own_all1])
             | (refine Or.inl ?_)
             | (refine cond_f ?_ ?_)
             | (refine ⟨_, ⟨by decide, rfl⟩, ?_⟩)
             | (refine cond_i (fun h => ?_) (fun h => ?_)))
    all_goals (conv => whnf)
    all_goals rfl
  · have h1' : idxB (fun e : Ev => e.kind != k) l = (i : Int) := h1
    rw [h1'] at hx
    have b1 : ((i : Int) == -1) = false := by simp
    repeat' (conv => whnf
             first
             | (refine And.intro (by kernel_rfl) ?_)
             | (refine And.intro ⟨by kernel_rfl, by kernel_rfl⟩ ?_)
             | (refine Or.inl ⟨_, hx, ?_⟩)
             | (refine ⟨_, hx, ?_⟩)
             | (refine ⟨own_le1, ?_⟩)
             | (rw [own_all1])
             | (refine cond_0 b1 ?_)
             | (refine Or.inl ?_)
             | (refine cond_f ?_ ?_)
             | (refine ⟨_, ⟨by decide, rfl⟩, ?_⟩)
             | (refine cond_i (fun h => ?_) (fun h => ?_)))
    all_goals (conv => whnf)
    refine Has.each [0, 1, 5, 6] [7] (l.length - (i + 1)) (fun j b => DelJ (fun e : Ev => e.kind == k) l (i + 1) j b) (fun b _ =>
      St.ofP 42 0 1 [(0, .own 50 0 l.length), (1, .fn 42 [.elt [.int .i64 k] 0]), (5, .int .i64 b.i), (6, .int .i64 b.j)] [] [(50, b.R.map Ev.g)])
      ⟨⟨l, (i : Int), IntKind.i64.wrap ((i : Int) + 1)⟩, _, rfl, ⟨i, rfl, wrap_i64 (by omega), ⟨rfl, ⟨by omega, by omega⟩, h2.symm, rfl⟩⟩, rfl⟩ (fun j b hj hI => ?_) (fun b hI => ?_)
    · obtain ⟨R, bi, bj⟩ := b
      obtain ⟨c, rfl, rfl, hD⟩ := hI
      simp only at *
      have hJ : i + 1 + j < l.length := by omega
      have hR := hD.at hJ
      have hs2 := hD.step hJ
      have hRl := hD.len
      have hcJ := hD.le
      have f1 : 0 ≤ ((i + 1 + j : Nat) : Int) ∧ ((i + 1 + j : Nat) : Int) < ((l.length : Nat) : Int) ∧ (R.map Ev.g)[(0 : Nat) + (((i + 1 + j : Nat) : Int)).toNat]? = some (Ev.g l[i + 1 + j]) := ⟨by omega, by omega, by rw [Nat.zero_add, Int.toNat_natCast, List.getElem?_map, hR]; rfl⟩
      have f2 := f1.2.2
      have hF := ev_Of1 l[i + 1 + j] k
      have c1 : decide (((i + 1 + j : Nat) : Int) < ((l.length : Nat) : Int)) = true := decide_eq_true (by omega)
      have wj : IntKind.i64.wrap (((i + 1 + j : Nat) : Int) + 1) = ((i + 1 + (j + 1) : Nat) : Int) := by rw [wrap_i64 (by omega)]; omega
      cases hb : (l[i + 1 + j].kind == k) with
      | false =>
        have hb' : (l[i + 1 + j].kind != k) = true := by simp only [bne, hb]; rfl
        rw [hb'] at hF
        refine awp_go ?_
        repeat' (conv => whnf
                 first
                 | (refine And.intro (by kernel_rfl) ?_)
                 | (refine And.intro ⟨by kernel_rfl, by kernel_rfl⟩ ?_)
                 | (refine cond_1 c1 ?_)
                 | (refine ⟨_, f1, ?_⟩)
                 | (refine ⟨_, f2, ?_⟩)
                 | (refine Or.inl ⟨_, hF, ?_⟩)
                 | (refine ⟨_, hF, ?_⟩)
                 | (refine cond_f ?_ ?_)
                 | (refine ⟨_, ⟨by decide, rfl⟩, ?_⟩)
                 | (refine cond_i (fun h => ?_) (fun h => ?_)))
        all_goals (conv => whnf)
        exact ⟨⟨R, (c : Int), _⟩, _, rfl, ⟨c, rfl, wj, hs2.1 hb⟩, rfl⟩
      | true =>
        have hb' : (l[i + 1 + j].kind != k) = false := by simp only [bne, hb]; rfl
        rw [hb'] at hF
        have hcl : c < R.length := by omega
        have g1 : 0 ≤ ((c : Nat) : Int) ∧ ((c : Nat) : Int) < ((l.length : Nat) : Int) ∧ (R.map Ev.g)[(0 : Nat) + (((c : Nat) : Int)).toNat]? = some (Ev.g R[c]) := ⟨by omega, by omega, by rw [Nat.zero_add, Int.toNat_natCast, List.getElem?_map, List.getElem?_eq_getElem hcl]; rfl⟩
        have g2 : (R.map Ev.g)[(0 : Nat) + (((c : Nat) : Int)).toNat]? = some (Ev.g R[c]) ∧ 0 + Tryd.prog.cellsOf 30 ≤ (Ev.g R[c]).length := ⟨g1.2.2, Nat.le_of_ble_eq_true (by kernel_rfl)⟩
        have wc : IntKind.i64.wrap (((c : Nat) : Int) + 1) = ((c + 1 : Nat) : Int) := by rw [wrap_i64 (by omega)]; omega
        refine awp_go ?_
        repeat' (conv => whnf
                 first
                 | (refine And.intro (by kernel_rfl) ?_)
                 | (refine And.intro ⟨by kernel_rfl, by kernel_rfl⟩ ?_)
                 | (refine cond_1 c1 ?_)
                 | (refine ⟨_, f1, ?_⟩)
                 | (refine ⟨_, f2, ?_⟩)
                 | (refine Or.inl ⟨_, hF, ?_⟩)
                 | (refine ⟨_, hF, ?_⟩)
                 | (refine ⟨_, g1, ?_⟩)
                 | (refine ⟨_, g2, ?_⟩)
                 | (refine cond_f ?_ ?_)
                 | (refine ⟨_, ⟨by decide, rfl⟩, ?_⟩)
                 | (refine cond_i (fun h => ?_) (fun h => ?_)))
        all_goals (conv => whnf)
        refine ⟨⟨R.set c l[i + 1 + j], _, _⟩, _, ?_, ⟨c + 1, wc, wj, hs2.2 hb⟩, rfl⟩
        rw [List.map_set]
        have e0 : (0 : Nat) + (((c : Nat) : Int)).toNat = c := by rw [Nat.zero_add, Int.toNat_natCast]
        rw [show (R.map Ev.g).set c (Ev.g l[i + 1 + j]) = (R.map Ev.g).set ((0 : Nat) + (((c : Nat) : Int)).toNat) (Ev.g l[i + 1 + j]) from congrArg (fun x => (R.map Ev.g).set x (Ev.g l[i + 1 + j])) e0.symm]
        rfl
    · obtain ⟨R, bi, bj⟩ := b
      obtain ⟨c, rfl, rfl, hD⟩ := hI
      simp only at *
      have hRl := hD.len
      have hcJ := hD.le
      have hJ : i + 1 + (l.length - (i + 1)) = l.length := by omega
      rw [hJ] at hD ⊢
      obtain ⟨r1, r2⟩ := del_row hD rfl
      have c1 : decide (((l.length : Nat) : Int) < ((l.length : Nat) : Int)) = false := decide_eq_false (by omega)
      have g1 : (0 : Int) ≤ ((c : Nat) : Int) ∧ ((c : Nat) : Int) ≤ ((l.length : Nat) : Int) ∧ ((l.length : Nat) : Int) ≤ ((l.length : Nat) : Int) ∧ ∀ r ∈ R.map Ev.g, r.length = Tryd.prog.cellsOf 30 := ⟨by omega, by omega, by omega, ev_len⟩
      have g2 : 0 + (((c : Nat) : Int)).toNat + (l.length - (((c : Nat) : Int)).toNat) ≤ (R.map Ev.g).length ∧ ∀ r ∈ R.map Ev.g, r.length = Tryd.prog.cellsOf 30 := ⟨by rw [List.length_map]; omega, ev_len⟩
      have g3 : (0 : Int) ≤ 0 ∧ (0 : Int) ≤ ((c : Nat) : Int) ∧ ((c : Nat) : Int) ≤ ((l.length : Nat) : Int) ∧ ∀ r ∈ (R.map Ev.g).take (0 + (((c : Nat) : Int)).toNat) ++ List.replicate (l.length - (((c : Nat) : Int)).toNat) zEv ++ (R.map Ev.g).drop (0 + (((c : Nat) : Int)).toNat + (l.length - (((c : Nat) : Int)).toNat)), r.length = Tryd.prog.cellsOf 30 := ⟨by omega, by omega, by omega, fun r hr => by
        rw [List.mem_append, List.mem_append] at hr
        rcases hr with (hr | hr) | hr
        · exact ev_len r (List.mem_of_mem_take hr)
        · rw [List.eq_of_mem_replicate hr, evcells]; rfl
        · exact ev_len r (List.mem_of_mem_drop hr)⟩
      refine awp_go ?_
      rw [← r1, ← r2]
      repeat' (conv => whnf
               first
               | (refine And.intro (by kernel_rfl) ?_)
               | (refine And.intro ⟨by kernel_rfl, by kernel_rfl⟩ ?_)
               | (refine cond_0 c1 ?_)
               | (refine ⟨g1, ?_⟩)
               | (refine ⟨g2, ?_⟩)
               | (refine ⟨g3, ?_⟩)
               | (refine cond_f ?_ ?_)
               | (refine ⟨_, ⟨by decide, rfl⟩, ?_⟩)
               | (refine cond_i (fun h => ?_) (fun h => ?_)))
      all_goals (conv => whnf)
      all_goals rfl
end Go.Proofs.YtcihkmnolagdlaaDoor.Cn
