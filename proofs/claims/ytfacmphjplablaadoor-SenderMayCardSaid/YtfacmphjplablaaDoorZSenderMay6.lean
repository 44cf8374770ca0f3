/- One text out of several: Cn86, Cn87, Cn88, Av15. No condition but theirs. -/
import Derived.Deep.Slices
import Derived.SizedLaws
import Derived.ChangeOld
import Derived.WideShapes
import Derived.ChangeShapes
import Derived.Test.YtfacmphjplablaaDoorZSenderMay3
import Derived.Test.YtfacmphjplablaaDoorZSenderMay4
import Derived.Test.YtfacmphjplablaaDoorZSenderMay5
namespace Go.Proofs.YtfacmphjplablaaDoor.Cn
open Go Go.Proofs Go.Proofs.YtfacmphjplablaaDoor.Av Go.Proofs.YtfacmphjplablaaDoor.Sp
set_option linter.unusedVariables false
set_option linter.unusedSimpArgs false
set_option linter.unusedSectionVars false
set_option maxRecDepth 100000
attribute [local irreducible] Fv Fp

def okCallR (c : Sp.Call) : Bool := okId c.id && decide (0 ≤ c.att ∧ c.att ≤ 5 ∧ 0 ≤ c.to ∧ c.to ≤ 63 ∧ 0 ≤ c.program ∧ c.program ≤ 15)
theorem okCallR_iff (c : Sp.Call) : okCallR c = true ↔ okId c.id = true ∧ 0 ≤ c.att ∧ c.att ≤ 5 ∧ 0 ≤ c.to ∧ c.to ≤ 63 ∧ 0 ≤ c.program ∧ c.program ≤ 15 := by unfold okCallR; simp
theorem law26_one (c : Sp.Call) : Fv Tryd.prog 34 [.agg c.g] (.bool (okCallR c)) := by
  have n1 := ref07_Right c.id
  unfold okCallR
  generalize okId c.id = b at *
  refine Fv.of_awp Tryd.func34 rfl (by kernel_rfl) rfl (Nat.le_of_ble_eq_true rfl) ?_
  cases b
  · skip
    repeat' (conv => whnf
             first
             | (refine And.intro (by kernel_rfl) ?_)
             | (refine And.intro ⟨by kernel_rfl, by kernel_rfl⟩ ?_)
             | (refine Or.inl ⟨_, n1, ?_⟩)
             | (refine ⟨_, n1, ?_⟩)
             | (refine cond_f ?_ ?_)
             | (refine ⟨_, ⟨by decide, rfl⟩, ?_⟩)
             | (refine cond_i (fun h => ?_) (fun h => ?_)))
    all_goals (conv => whnf)
    all_goals rfl
  · skip
    repeat' (conv => whnf
             first
             | (refine And.intro (by kernel_rfl) ?_)
             | (refine And.intro ⟨by kernel_rfl, by kernel_rfl⟩ ?_)
             | (refine Or.inl ⟨_, n1, ?_⟩)
             | (refine ⟨_, n1, ?_⟩)
             | (refine cond_f ?_ ?_)
             | (refine ⟨_, ⟨by decide, rfl⟩, ?_⟩)
             | (refine cond_i (fun h => ?_) (fun h => ?_)))
    all_goals (conv => whnf)
    all_goals
      refine bool_eq ?_
      rw [Bool.eq_iff_iff]
      simp only [decide_eq_true_eq, decide_eq_false_iff_not, ge_iff_le, Bool.false_eq_true, false_iff, Bool.true_and] at *
      omega
def okHeadO (me : Int) (o : Owner) : Bool := okKey o.key && okId o.root && decide (0 ≤ me ∧ me ≤ 63 ∧ 0 ≤ o.from ∧ o.from ≤ 63 ∧ 0 ≤ o.hop ∧ o.calls.length ≤ 30)
def okC1 (c : Sp.Call) : Bool := okCallR c && decide (1 ≤ c.att)
def okMay (me : Int) (o : Owner) : Bool := okHeadO me o && o.calls.all okC1
theorem all_snoc {α : Type} (f : α → Bool) (l : List α) (k : Nat) (hk : k < l.length) : (l.take (k + 1)).all f = ((l.take k).all f && f l[k]) := by
  rw [List.take_succ_eq_append_getElem hk, List.all_append]; simp
theorem all_no {α : Type} (f : α → Bool) (l : List α) (k : Nat) (hk : k < l.length) (h : f l[k] = false) : l.all f = false := by
  rw [Bool.eq_false_iff]
  intro ha
  have := List.all_eq_true.1 ha l[k] (List.getElem_mem hk)
  rw [h] at this; cases this
set_option maxHeartbeats 4000000 in
theorem may_of (me : Int) (o : Owner) (k r : Bool) (n1 : Fv Tryd.prog 66 [.agg o.key.g] (.bool k)) (n2 : Fv Tryd.prog 67 [.agg o.root.g] (.bool r)) :
    Fv Tryd.prog 33 [.int .i64 me, .agg o.g] (.bool (k && r && decide (0 ≤ me ∧ me ≤ 63 ∧ 0 ≤ o.from ∧ o.from ≤ 63 ∧ 0 ≤ o.hop ∧ o.calls.length ≤ 30) && o.calls.all okC1)) := by
  refine Fv.of_awp Tryd.func33 rfl (by kernel_rfl) rfl (Nat.le_of_ble_eq_true rfl) ?_
  have no : (k && r && decide (0 ≤ me ∧ me ≤ 63 ∧ 0 ≤ o.from ∧ o.from ≤ 63 ∧ 0 ≤ o.hop ∧ o.calls.length ≤ 30)) = false → ∀ b : Bool, G.bool false = G.bool (k && r && decide (0 ≤ me ∧ me ≤ 63 ∧ 0 ≤ o.from ∧ o.from ≤ 63 ∧ 0 ≤ o.hop ∧ o.calls.length ≤ 30) && b) := fun h b => by rw [h]; rfl
  by_cases hd : 0 ≤ me ∧ me ≤ 63 ∧ 0 ≤ o.from ∧ o.from ≤ 63 ∧ 0 ≤ o.hop ∧ o.calls.length ≤ 30
  · have b1 : decide (me < 0) = false := decide_eq_false (by omega)
    have b2 : decide (me > 63) = false := decide_eq_false (by omega)
    have b3 : decide (o.from < 0) = false := decide_eq_false (by omega)
    have b4 : decide (o.from > 63) = false := decide_eq_false (by omega)
    have b5 : decide (o.hop < 0) = false := decide_eq_false (by omega)
    have b6 : decide (((o.calls.map Call.g).length : Int) > 30) = false := decide_eq_false (by rw [List.length_map]; omega)
    cases k
    · skip
      repeat' (conv => whnf
               first
               | (refine And.intro (by kernel_rfl) ?_)
               | (refine And.intro ⟨by kernel_rfl, by kernel_rfl⟩ ?_)
               | (refine cond_0 b1 ?_)
               | (refine cond_0 b2 ?_)
               | (refine Or.inl ⟨_, n1, ?_⟩)
               | (refine ⟨_, n1, ?_⟩)
               | (refine cond_f ?_ ?_)
               | (refine ⟨_, ⟨by decide, rfl⟩, ?_⟩)
               | (refine cond_i (fun h => ?_) (fun h => ?_)))
      all_goals (conv => whnf)
      all_goals rfl
    cases r
    · skip
      repeat' (conv => whnf
               first
               | (refine And.intro (by kernel_rfl) ?_)
               | (refine And.intro ⟨by kernel_rfl, by kernel_rfl⟩ ?_)
               | (refine cond_0 b1 ?_)
               | (refine cond_0 b2 ?_)
               | (refine Or.inl ⟨_, n1, ?_⟩)
               | (refine ⟨_, n1, ?_⟩)
               | (refine Or.inl ⟨_, n2, ?_⟩)
               | (refine ⟨_, n2, ?_⟩)
               | (refine cond_f ?_ ?_)
               | (refine ⟨_, ⟨by decide, rfl⟩, ?_⟩)
               | (refine cond_i (fun h => ?_) (fun h => ?_)))
      all_goals (conv => whnf)
      all_goals rfl
    rw [decide_eq_true hd]
    repeat' (conv => whnf
             first
             | (refine And.intro (by kernel_rfl) ?_)
             | (refine And.intro ⟨by kernel_rfl, by kernel_rfl⟩ ?_)
             | (refine cond_0 b1 ?_)
             | (refine cond_0 b2 ?_)
             | (refine Or.inl ⟨_, n1, ?_⟩)
             | (refine ⟨_, n1, ?_⟩)
             | (refine Or.inl ⟨_, n2, ?_⟩)
             | (refine ⟨_, n2, ?_⟩)
             | (refine cond_0 b3 ?_)
             | (refine cond_0 b4 ?_)
             | (refine cond_0 b5 ?_)
             | (refine cond_0 b6 ?_)
             | (refine cond_f ?_ ?_)
             | (refine ⟨_, ⟨by decide, rfl⟩, ?_⟩)
             | (refine cond_i (fun h => ?_) (fun h => ?_)))
    all_goals (conv => whnf)
    refine Has.each [3, 5] [] o.calls.length (fun j (_ : Unit) => (o.calls.take j).all okC1 = true) (fun _ i =>
      St.of 68 [(3, .ptr 3 0), (5, .int .i64 i)] [(3, o.g)] []) ⟨(), 0, rfl, rfl, rfl⟩ (fun j _ hj hI => ?_) (fun _ hI => ?_)
    · have n3 := law26_one o.calls[j]
      have hs := all_snoc okC1 o.calls j hj
      rw [hI, Bool.true_and] at hs
      cases hb : okCallR o.calls[j] with
      | false =>
        rw [hb] at n3
        refine awp_go ?_
        repeat' (conv => whnf
                 first
                 | (refine And.intro (by kernel_rfl) ?_)
                 | (refine And.intro ⟨by kernel_rfl, by kernel_rfl⟩ ?_)
                 | (refine cond_1 (lt_at hj) ?_)
                 | (refine ⟨_, row_at hj, ?_⟩)
                 | (refine Or.inl ⟨_, n3, ?_⟩)
                 | (refine ⟨_, n3, ?_⟩)
                 | (refine cond_f ?_ ?_)
                 | (refine ⟨_, ⟨by decide, rfl⟩, ?_⟩)
                 | (refine cond_i (fun h => ?_) (fun h => ?_)))
        all_goals (conv => whnf)
        all_goals
          refine bool_eq ?_
          rw [all_no okC1 o.calls j hj (by unfold okC1; rw [hb]; rfl)]; rfl
      | true =>
        rw [hb] at n3
        by_cases ha : o.calls[j].att < 1
        · have b7 : decide (o.calls[j].att < 1) = true := decide_eq_true ha
          refine awp_go ?_
          repeat' (conv => whnf
                   first
                   | (refine And.intro (by kernel_rfl) ?_)
                   | (refine And.intro ⟨by kernel_rfl, by kernel_rfl⟩ ?_)
                   | (refine cond_1 (lt_at hj) ?_)
                   | (refine ⟨_, row_at hj, ?_⟩)
                   | (refine Or.inl ⟨_, n3, ?_⟩)
                   | (refine ⟨_, n3, ?_⟩)
                   | (refine cond_1 b7 ?_)
                   | (refine cond_f ?_ ?_)
                   | (refine ⟨_, ⟨by decide, rfl⟩, ?_⟩)
                   | (refine cond_i (fun h => ?_) (fun h => ?_)))
          all_goals (conv => whnf)
          all_goals
            refine bool_eq ?_
            rw [all_no okC1 o.calls j hj (by unfold okC1; rw [decide_eq_false (by omega)]; simp)]; rfl
        · have b7 : decide (o.calls[j].att < 1) = false := decide_eq_false ha
          refine awp_go ?_
          repeat' (conv => whnf
                   first
                   | (refine And.intro (by kernel_rfl) ?_)
                   | (refine And.intro ⟨by kernel_rfl, by kernel_rfl⟩ ?_)
                   | (refine cond_1 (lt_at hj) ?_)
                   | (refine ⟨_, row_at hj, ?_⟩)
                   | (refine Or.inl ⟨_, n3, ?_⟩)
                   | (refine ⟨_, n3, ?_⟩)
                   | (refine cond_0 b7 ?_)
                   | (refine cond_f ?_ ?_)
                   | (refine ⟨_, ⟨by decide, rfl⟩, ?_⟩)
                   | (refine cond_i (fun h => ?_) (fun h => ?_)))
          all_goals (conv => whnf)
          refine ⟨(), _, rfl, ?_, up1 hj (by omega)⟩
          rw [hs]; unfold okC1; rw [hb, decide_eq_true (by omega)]; rfl
    · refine awp_go ?_
      repeat' (conv => whnf
               first
               | (refine And.intro (by kernel_rfl) ?_)
               | (refine And.intro ⟨by kernel_rfl, by kernel_rfl⟩ ?_)
               | (refine cond_0 lt_end ?_)
               | (refine cond_f ?_ ?_)
               | (refine ⟨_, ⟨by decide, rfl⟩, ?_⟩)
               | (refine cond_i (fun h => ?_) (fun h => ?_)))
      all_goals (conv => whnf)
      all_goals
        rw [List.take_length] at hI
        rw [hI]; rfl
  · rw [decide_eq_false hd] at no ⊢
    have nn : ∀ b : Bool, G.bool false = G.bool (k && r && false && b) := fun b => by cases k <;> cases r <;> rfl
    cases k
    · skip
      repeat' (conv => whnf
               first
               | (refine And.intro (by kernel_rfl) ?_)
               | (refine And.intro ⟨by kernel_rfl, by kernel_rfl⟩ ?_)
               | (refine Or.inl ⟨_, n1, ?_⟩)
               | (refine ⟨_, n1, ?_⟩)
               | (refine cond_f ?_ ?_)
               | (refine ⟨_, ⟨by decide, rfl⟩, ?_⟩)
               | (refine cond_i (fun h => ?_) (fun h => ?_)))
      all_goals (conv => whnf)
      all_goals exact nn _
    cases r
    · skip
      repeat' (conv => whnf
               first
               | (refine And.intro (by kernel_rfl) ?_)
               | (refine And.intro ⟨by kernel_rfl, by kernel_rfl⟩ ?_)
               | (refine Or.inl ⟨_, n1, ?_⟩)
               | (refine ⟨_, n1, ?_⟩)
               | (refine Or.inl ⟨_, n2, ?_⟩)
               | (refine ⟨_, n2, ?_⟩)
               | (refine cond_f ?_ ?_)
               | (refine ⟨_, ⟨by decide, rfl⟩, ?_⟩)
               | (refine cond_i (fun h => ?_) (fun h => ?_)))
      all_goals (conv => whnf)
      all_goals exact nn _
    repeat' (conv => whnf
             first
             | (refine And.intro (by kernel_rfl) ?_)
             | (refine And.intro ⟨by kernel_rfl, by kernel_rfl⟩ ?_)
             | (refine Or.inl ⟨_, n1, ?_⟩)
             | (refine ⟨_, n1, ?_⟩)
             | (refine Or.inl ⟨_, n2, ?_⟩)
             | (refine ⟨_, n2, ?_⟩)
             | (refine cond_f ?_ ?_)
             | (refine ⟨_, ⟨by decide, rfl⟩, ?_⟩)
             | (refine cond_i (fun h => ?_) (fun h => ?_)))
    all_goals (conv => whnf)
    all_goals first
      | exact nn _
      | (exfalso
         simp only [List.length_map, decide_eq_true_eq, decide_eq_false_iff_not, gt_iff_lt, Int.not_lt] at *
         omega)
theorem law26_may (me : Int) (o : Owner) : Fv Tryd.prog 33 [.int .i64 me, .agg o.g] (.bool (okMay me o)) := may_of me o _ _ (ref07_Key _) (ref07_Right _)
theorem law26_back (l : List Packet) (h : ∀ p ∈ l, okP p = true) (hl : l.length < 1000) : Fv Tryd.prog 35 [.sl (l.map Packet.g)] (.bool true) := by
  refine Fv.of_awp Tryd.func35 rfl (by kernel_rfl) rfl (Nat.le_of_ble_eq_true rfl) ?_
  repeat' (conv => whnf
           first
           | (refine And.intro (by kernel_rfl) ?_)
           | (refine And.intro ⟨by kernel_rfl, by kernel_rfl⟩ ?_)
           | (refine cond_f ?_ ?_)
           | (refine ⟨_, ⟨by decide, rfl⟩, ?_⟩)
           | (refine cond_i (fun h => ?_) (fun h => ?_)))
  all_goals (conv => whnf)
  refine Has.each [0, 3] [4] l.length (fun _ (_ : Unit) => True) (fun _ i => St.of 39 [(0, .sl (l.map Packet.g)), (3, .int .i64 i)] [] []) ⟨(), 0, rfl, trivial, rfl⟩ (fun j _ hj hI => ?_) (fun _ hI => ?_)
  · have hp := h l[j] (List.getElem_mem hj)
    have n1 := packet_Code l[j] hp
    have n2 := packet_Parse (codeP l[j]) (by have := code_le _ hp; unfold codeP; rw [seal_size]; omega)
    rw [parse_code hp] at n2
    have n3 := packet_Right l[j]
    rw [hp] at n3
    generalize codeP l[j] = S at *
    have hq := packet_eqB l[j] l[j]
    rw [decide_eq_true rfl] at hq
    refine awp_go ?_
    repeat' (conv => whnf
             first
             | (refine And.intro (by kernel_rfl) ?_)
             | (refine And.intro ⟨by kernel_rfl, by kernel_rfl⟩ ?_)
             | (refine cond_1 (lt_at hj) ?_)
             | (refine ⟨_, row_at hj, ?_⟩)
             | (refine Or.inl ⟨_, n1, ?_⟩)
             | (refine ⟨_, n1, ?_⟩)
             | (refine Or.inl ⟨_, n2, ?_⟩)
             | (refine ⟨_, n2, ?_⟩)
             | (refine Or.inl ⟨_, n3, ?_⟩)
             | (refine ⟨_, n3, ?_⟩)
             | (rw [hq])
             | (refine cond_f ?_ ?_)
             | (refine ⟨_, ⟨by decide, rfl⟩, ?_⟩)
             | (refine cond_i (fun h => ?_) (fun h => ?_)))
    all_goals (conv => whnf)
    exact ⟨(), _, rfl, trivial, up1 hj (by omega)⟩
  · refine awp_go ?_
    repeat' (conv => whnf
             first
             | (refine And.intro (by kernel_rfl) ?_)
             | (refine And.intro ⟨by kernel_rfl, by kernel_rfl⟩ ?_)
             | (refine cond_0 lt_end ?_)
             | (refine cond_f ?_ ?_)
             | (refine ⟨_, ⟨by decide, rfl⟩, ?_⟩)
             | (refine cond_i (fun h => ?_) (fun h => ?_)))
    all_goals (conv => whnf)
    all_goals rfl
end Go.Proofs.YtfacmphjplablaaDoor.Cn
namespace Go.Proofs.YtfacmphjplablaaDoor.Cn
open Go Go.Proofs Go.Proofs.YtfacmphjplablaaDoor.Av Go.Proofs.YtfacmphjplablaaDoor.Sp
set_option linter.unusedVariables false
set_option linter.unusedSimpArgs false
set_option linter.unusedSectionVars false
set_option maxRecDepth 100000
attribute [local irreducible] Fv Fp

theorem may_out (c : Config) (me : Int) (o : Owner) (x : Sp.Call) (now v : Int) (m k : Bool) (n1 : Fv Tryd.prog 33 [.int .i64 me, .agg o.g] (.bool m)) (n2 : Fv Tryd.prog 34 [.agg x.g] (.bool k))
    (aw : Fv Tryd.prog 9 [] (.bool true)) (h : m = false ∨ k = false ∨ c.hops > 16 ∨ v < 0 ∨ v > 2147483647) : Fv Tryd.prog 8 [.agg c.g, .int .i64 me, .agg o.g, .agg x.g, .int .i64 now, .int .i64 v] (.bool true) := by
  refine Fv.of_awp Tryd.func8 rfl (by kernel_rfl) rfl (Nat.le_of_ble_eq_true rfl) ?_
  cases m
  · skip
    repeat' (conv => whnf
             first
             | (refine And.intro (by kernel_rfl) ?_)
             | (refine And.intro ⟨by kernel_rfl, by kernel_rfl⟩ ?_)
             | (refine Or.inl ⟨_, n1, ?_⟩)
             | (refine ⟨_, n1, ?_⟩)
             | (refine Or.inl ⟨_, aw, ?_⟩)
             | (refine ⟨_, aw, ?_⟩)
             | (refine cond_f ?_ ?_)
             | (refine ⟨_, ⟨by decide, rfl⟩, ?_⟩)
             | (refine cond_i (fun h => ?_) (fun h => ?_)))
    all_goals (conv => whnf)
    all_goals rfl
  cases k
  · skip
    repeat' (conv => whnf
             first
             | (refine And.intro (by kernel_rfl) ?_)
             | (refine And.intro ⟨by kernel_rfl, by kernel_rfl⟩ ?_)
             | (refine Or.inl ⟨_, n1, ?_⟩)
             | (refine ⟨_, n1, ?_⟩)
             | (refine Or.inl ⟨_, n2, ?_⟩)
             | (refine ⟨_, n2, ?_⟩)
             | (refine Or.inl ⟨_, aw, ?_⟩)
             | (refine ⟨_, aw, ?_⟩)
             | (refine cond_f ?_ ?_)
             | (refine ⟨_, ⟨by decide, rfl⟩, ?_⟩)
             | (refine cond_i (fun h => ?_) (fun h => ?_)))
    all_goals (conv => whnf)
    all_goals rfl
  by_cases h1 : c.hops > 16
  · have b1 : decide (c.hops > 16) = true := decide_eq_true h1
    repeat' (conv => whnf
             first
             | (refine And.intro (by kernel_rfl) ?_)
             | (refine And.intro ⟨by kernel_rfl, by kernel_rfl⟩ ?_)
             | (refine Or.inl ⟨_, n1, ?_⟩)
             | (refine ⟨_, n1, ?_⟩)
             | (refine Or.inl ⟨_, n2, ?_⟩)
             | (refine ⟨_, n2, ?_⟩)
             | (refine cond_1 b1 ?_)
             | (refine Or.inl ⟨_, aw, ?_⟩)
             | (refine ⟨_, aw, ?_⟩)
             | (refine cond_f ?_ ?_)
             | (refine ⟨_, ⟨by decide, rfl⟩, ?_⟩)
             | (refine cond_i (fun h => ?_) (fun h => ?_)))
    all_goals (conv => whnf)
    all_goals rfl
  have b1 : decide (c.hops > 16) = false := decide_eq_false h1
  by_cases h2 : v < 0
  · have b2 : decide (v < 0) = true := decide_eq_true h2
    repeat' (conv => whnf
             first
             | (refine And.intro (by kernel_rfl) ?_)
             | (refine And.intro ⟨by kernel_rfl, by kernel_rfl⟩ ?_)
             | (refine Or.inl ⟨_, n1, ?_⟩)
             | (refine ⟨_, n1, ?_⟩)
             | (refine Or.inl ⟨_, n2, ?_⟩)
             | (refine ⟨_, n2, ?_⟩)
             | (refine cond_0 b1 ?_)
             | (refine cond_1 b2 ?_)
             | (refine Or.inl ⟨_, aw, ?_⟩)
             | (refine ⟨_, aw, ?_⟩)
             | (refine cond_f ?_ ?_)
             | (refine ⟨_, ⟨by decide, rfl⟩, ?_⟩)
             | (refine cond_i (fun h => ?_) (fun h => ?_)))
    all_goals (conv => whnf)
    all_goals rfl
  have b2 : decide (v < 0) = false := decide_eq_false h2
  have b3 : decide (v > 2147483647) = true := decide_eq_true (by
    rcases h with h | h | h | h | h
    · cases h
    · cases h
    · exact absurd h h1
    · exact absurd h h2
    · exact h)
  repeat' (conv => whnf
           first
           | (refine And.intro (by kernel_rfl) ?_)
           | (refine And.intro ⟨by kernel_rfl, by kernel_rfl⟩ ?_)
           | (refine Or.inl ⟨_, n1, ?_⟩)
           | (refine ⟨_, n1, ?_⟩)
           | (refine Or.inl ⟨_, n2, ?_⟩)
           | (refine ⟨_, n2, ?_⟩)
           | (refine cond_0 b1 ?_)
           | (refine cond_0 b2 ?_)
           | (refine cond_1 b3 ?_)
           | (refine Or.inl ⟨_, aw, ?_⟩)
           | (refine ⟨_, aw, ?_⟩)
           | (refine cond_f ?_ ?_)
           | (refine ⟨_, ⟨by decide, rfl⟩, ?_⟩)
           | (refine cond_i (fun h => ?_) (fun h => ?_)))
  all_goals (conv => whnf)
  all_goals rfl
theorem okRows_map {α : Type} {n : Nat} (R : α → List G) (hR : ∀ x, (R x).length = n ∧ (R x).all G.closed0 = true) (l : List α) : okRows n (l.map R) = true := by
  unfold okRows
  rw [List.all_eq_true]
  intro r hr
  obtain ⟨x, _, rfl⟩ := List.mem_map.1 hr
  obtain ⟨h1, h2⟩ := hR x
  rw [Bool.and_eq_true]
  exact ⟨by simp [h1], h2⟩
theorem okRows_P (l : List Packet) : okRows (Tryd.prog.cellsOf 37) (l.map Packet.g) = true := by
  rw [show Tryd.prog.cellsOf 37 = 23 from by kernel_rfl]
  exact okRows_map Packet.g (fun x => ⟨rfl, rfl⟩) l
theorem lm_app {P : Program} {e : TypeId} {n b : Nat} (R : Packet → List G) (hR : ∀ x, (R x).length = n) (L M : List Packet) (hc : P.cellsOf e = n) (hb : P.bytesOf e = b) (hl : (2 * (L.length + M.length) + 1024) * b ≤ 281474976710656) :
    0 + (L.map R).length ≤ (L.map R).length ∧ (0 < (L.map R).length + (M.map R).length ∨ L.map R = []) ∧ fitsB P e ((L.map R).length + (M.map R).length) ∧ ∀ r ∈ L.map R, r.length = P.cellsOf e := by
  refine ⟨by omega, ?_, fits b hb (by simpa using hl), fun r hr => by obtain ⟨x, _, rfl⟩ := List.mem_map.1 hr; rw [hc]; exact hR x⟩
  cases L with
  | nil => exact .inr rfl
  | cons x L => exact .inl (by simp; omega)
theorem lm_tk {α : Type} (R : α → List G) (L M : List α) : ((L.map R).drop 0).take (L.map R).length ++ M.map R = (L ++ M).map R := by rw [List.drop_zero, List.take_length, List.map_append]
theorem lm_ln {α : Type} (R : α → List G) (L M : List α) : (L.map R).length + (M.map R).length = ((L ++ M).map R).length := by simp
theorem lm_le {α : Type} (R : α → List G) (L : List α) : 0 + (L.map R).length ≤ (L.map R).length := by omega
theorem lm_all {α : Type} (R : α → List G) (L : List α) : ((L.map R).drop 0).take (L.map R).length = L.map R := by rw [List.drop_zero, List.take_length]
def pkB : Nat := 192
theorem appPk (L M : List Packet) (hl : L.length + M.length ≤ 1000) : 0 + (L.map Packet.g).length ≤ (L.map Packet.g).length ∧ (0 < (L.map Packet.g).length + (M.map Packet.g).length ∨ L.map Packet.g = []) ∧ fitsB Tryd.prog 37 ((L.map Packet.g).length + (M.map Packet.g).length) ∧ ∀ r ∈ L.map Packet.g, r.length = Tryd.prog.cellsOf 37 :=
  lm_app (n := 23) (b := pkB) Packet.g (fun _ => rfl) L M (by kernel_rfl) (by kernel_rfl) (by unfold pkB; omega)
theorem fitPk (n : Nat) (h : n ≤ 1000) : fitsB Tryd.prog 37 n := fits pkB (by kernel_rfl) (by unfold pkB; omega)
section
variable (c : Config) (me : Int) (o : Owner) (x y : Sp.Call) (now v : Int) (q P1 P2 P3 : Packet) (W1 W2 : List Packet) (n1 : Fv Tryd.prog 33 [.int .i64 me, .agg o.g] (.bool true)) (n2 : Fv Tryd.prog 34 [.agg x.g] (.bool true))
    (aw : Fv Tryd.prog 9 [] (.bool true)) (h1 : ¬ c.hops > 16) (h2 : ¬ v < 0) (h3 : ¬ v > 2147483647)
    (n3 : Fv Tryd.prog 11 [.agg o.g] (.agg o.g)) (n4 : Fv Tryd.prog 12 [.agg x.g] (.agg x.g))
    (n5 : Fv Tryd.prog 10 [.agg c.g, .int .i64 me, .agg o.g, .agg x.g, .int .i64 now] (.tup [.agg y.g, .agg q.g]))
    (n6 : Fv Tryd.prog 26 [.int .i64 me, .agg o.g] (.sl (W1.map Packet.g))) (n7 : Fv Tryd.prog 28 [.int .i64 me, .agg o.g] (.sl (W2.map Packet.g)))
    (n8 : Fv Tryd.prog 18 [.int .i64 me, .agg o.g, .int .i64 x.att, .int .i64 v] (.agg P1.g)) (n9 : Fv Tryd.prog 20 [.int .i64 me, .agg o.g] (.agg P2.g))
    (n10 : Fv Tryd.prog 22 [.int .i64 me, .agg o.g, .int .i64 (IntKind.i64.wrap (x.att - 1))] (.agg P3.g)) (hW1 : W1.length ≤ 30) (hW2 : W2.length ≤ 30)
include n1 n2 aw h1 h2 h3 n3 n4 n5 n6 n7 n8 n9 n10 hW1 hW2
set_option maxHeartbeats 8000000 in
theorem may_in1 (hk : q.kind ≠ 0) (ha : o.key.att > 0) (nb : Fv Tryd.prog 35 [.sl (([q] ++ W1 ++ W2 ++ [P1, P2, P3]).map Packet.g)] (.bool true)) : Fv Tryd.prog 8 [.agg c.g, .int .i64 me, .agg o.g, .agg x.g, .int .i64 now, .int .i64 v] (.bool true) := by
  have b1 : decide (c.hops > 16) = false := decide_eq_false h1
  have b2 : decide (v < 0) = false := decide_eq_false h2
  have b3 : decide (v > 2147483647) = false := decide_eq_false h3
  have b4 : (q.kind != 0) = true := by simp [hk]
  have b5 : decide (o.key.att > 0) = true := decide_eq_true ha
  have r1 := okRows_P W1
  have r2 := okRows_P W2
  have g1 : [([.int .i64 q.kind, .int .i64 q.from, .int .i64 q.to, .int .i64 q.key.id.node, .int .i64 q.key.id.inc, .int .i64 q.key.id.seq, .int .i64 q.key.att, .int .i64 q.hop, .int .i64 q.stamp, .str q.timeout, .int .i64 q.until, .int .i64 q.program, .int .i64 q.root.node, .int .i64 q.root.inc, .int .i64 q.root.seq, .int .i64 q.parent.id.node, .int .i64 q.parent.id.inc, .int .i64 q.parent.id.seq, .int .i64 q.parent.att, .int .i64 q.code, .int .i64 q.value, .bool q.more, .int .i64 q.delay] : List G)] = [q].map Packet.g := rfl
  have z0 : ([q].map Packet.g).length ≤ 1000 := by simp
  have z1 : [q].length + W1.length ≤ 1000 := by simp; omega
  have z2 : ([q] ++ W1).length + W2.length ≤ 1000 := by simp; omega
  have g3 : [([.int .i64 P1.kind, .int .i64 P1.from, .int .i64 P1.to, .int .i64 P1.key.id.node, .int .i64 P1.key.id.inc, .int .i64 P1.key.id.seq, .int .i64 P1.key.att, .int .i64 P1.hop, .int .i64 P1.stamp, .str P1.timeout, .int .i64 P1.until, .int .i64 P1.program, .int .i64 P1.root.node, .int .i64 P1.root.inc, .int .i64 P1.root.seq, .int .i64 P1.parent.id.node, .int .i64 P1.parent.id.inc, .int .i64 P1.parent.id.seq, .int .i64 P1.parent.att, .int .i64 P1.code, .int .i64 P1.value, .bool P1.more, .int .i64 P1.delay] : List G), [.int .i64 P2.kind, .int .i64 P2.from, .int .i64 P2.to, .int .i64 P2.key.id.node, .int .i64 P2.key.id.inc, .int .i64 P2.key.id.seq, .int .i64 P2.key.att, .int .i64 P2.hop, .int .i64 P2.stamp, .str P2.timeout, .int .i64 P2.until, .int .i64 P2.program, .int .i64 P2.root.node, .int .i64 P2.root.inc, .int .i64 P2.root.seq, .int .i64 P2.parent.id.node, .int .i64 P2.parent.id.inc, .int .i64 P2.parent.id.seq, .int .i64 P2.parent.att, .int .i64 P2.code, .int .i64 P2.value, .bool P2.more, .int .i64 P2.delay], [.int .i64 P3.kind, .int .i64 P3.from, .int .i64 P3.to, .int .i64 P3.key.id.node, .int .i64 P3.key.id.inc, .int .i64 P3.key.id.seq, .int .i64 P3.key.att, .int .i64 P3.hop, .int .i64 P3.stamp, .str P3.timeout, .int .i64 P3.until, .int .i64 P3.program, .int .i64 P3.root.node, .int .i64 P3.root.inc, .int .i64 P3.root.seq, .int .i64 P3.parent.id.node, .int .i64 P3.parent.id.inc, .int .i64 P3.parent.id.seq, .int .i64 P3.parent.att, .int .i64 P3.code, .int .i64 P3.value, .bool P3.more, .int .i64 P3.delay]] = [P1, P2, P3].map Packet.g := rfl
  have z3 : ([q] ++ W1 ++ W2).length + [P1, P2, P3].length ≤ 1000 := by simp; omega
  refine Fv.of_awp Tryd.func8 rfl (by kernel_rfl) rfl (Nat.le_of_ble_eq_true rfl) ?_
  repeat' (conv => whnf
           first
           | (refine And.intro (by kernel_rfl) ?_)
           | (refine And.intro ⟨by kernel_rfl, by kernel_rfl⟩ ?_)
           | (refine Or.inl ⟨_, n1, ?_⟩)
           | (refine ⟨_, n1, ?_⟩)
           | (refine Or.inl ⟨_, n2, ?_⟩)
           | (refine ⟨_, n2, ?_⟩)
           | (refine cond_0 b1 ?_)
           | (refine cond_0 b2 ?_)
           | (refine cond_0 b3 ?_)
           | (refine Or.inl ⟨_, n3, ?_⟩)
           | (refine ⟨_, n3, ?_⟩)
           | (refine Or.inl ⟨_, n4, ?_⟩)
           | (refine ⟨_, n4, ?_⟩)
           | (refine Or.inl ⟨_, n5, ?_⟩)
           | (refine ⟨_, n5, ?_⟩)
           | (refine cond_1 b4 ?_)
           | (rw [g1])
           | (refine ⟨fitPk _ z0, ?_⟩)
           | (refine Or.inl ⟨_, n6, ?_⟩)
           | (refine ⟨_, n6, ?_⟩)
           | (refine cond_1 r1 ?_)
           | (refine ⟨appPk [q] W1 z1, ?_⟩)
           | (refine Or.inl ⟨_, n7, ?_⟩)
           | (refine ⟨_, n7, ?_⟩)
           | (refine cond_1 r2 ?_)
           | (refine ⟨appPk ([q] ++ W1) W2 z2, ?_⟩)
           | (rw [lm_tk])
           | (rw [lm_ln])
           | (refine cond_1 b5 ?_)
           | (refine cond_f ?_ ?_)
           | (refine ⟨_, ⟨by decide, rfl⟩, ?_⟩)
           | (refine cond_i (fun h => ?_) (fun h => ?_)))
  all_goals (conv => whnf)
  repeat' (conv => whnf
           first
           | (refine And.intro (by kernel_rfl) ?_)
           | (refine And.intro ⟨by kernel_rfl, by kernel_rfl⟩ ?_)
           | (refine Or.inl ⟨_, n8, ?_⟩)
           | (refine ⟨_, n8, ?_⟩)
           | (refine Or.inl ⟨_, n9, ?_⟩)
           | (refine ⟨_, n9, ?_⟩)
           | (refine Or.inl ⟨_, n10, ?_⟩)
           | (refine ⟨_, n10, ?_⟩)
           | (refine ⟨appPk ([q] ++ W1 ++ W2) [P1, P2, P3] z3, ?_⟩)
           | (refine Or.inl ?_)
           | (refine cond_f ?_ ?_)
           | (refine ⟨_, ⟨by decide, rfl⟩, ?_⟩)
           | (refine cond_i (fun h => ?_) (fun h => ?_)))
  all_goals (conv => whnf)
  repeat' (conv => whnf
           first
           | (refine And.intro (by kernel_rfl) ?_)
           | (refine And.intro ⟨by kernel_rfl, by kernel_rfl⟩ ?_)
           | (rw [g3])
           | (rw [lm_tk])
           | (rw [lm_ln])
           | (refine Or.inl ⟨_, nb, ?_⟩)
           | (refine ⟨_, nb, ?_⟩)
           | (refine ⟨lm_le _ _, ?_⟩)
           | (rw [lm_all])
           | (refine Or.inl ⟨_, aw, ?_⟩)
           | (refine ⟨_, aw, ?_⟩)
           | (refine cond_f ?_ ?_)
           | (refine ⟨_, ⟨by decide, rfl⟩, ?_⟩)
           | (refine cond_i (fun h => ?_) (fun h => ?_)))
  all_goals (conv => whnf)
  all_goals rfl
set_option maxHeartbeats 8000000 in
theorem may_in2 (hk : q.kind ≠ 0) (ha : ¬ o.key.att > 0) (nb : Fv Tryd.prog 35 [.sl (([q] ++ W1 ++ W2).map Packet.g)] (.bool true)) : Fv Tryd.prog 8 [.agg c.g, .int .i64 me, .agg o.g, .agg x.g, .int .i64 now, .int .i64 v] (.bool true) := by
  have b1 : decide (c.hops > 16) = false := decide_eq_false h1
  have b2 : decide (v < 0) = false := decide_eq_false h2
  have b3 : decide (v > 2147483647) = false := decide_eq_false h3
  have b4 : (q.kind != 0) = true := by simp [hk]
  have b5 : decide (o.key.att > 0) = false := decide_eq_false ha
  have r1 := okRows_P W1
  have r2 := okRows_P W2
  have g1 : [([.int .i64 q.kind, .int .i64 q.from, .int .i64 q.to, .int .i64 q.key.id.node, .int .i64 q.key.id.inc, .int .i64 q.key.id.seq, .int .i64 q.key.att, .int .i64 q.hop, .int .i64 q.stamp, .str q.timeout, .int .i64 q.until, .int .i64 q.program, .int .i64 q.root.node, .int .i64 q.root.inc, .int .i64 q.root.seq, .int .i64 q.parent.id.node, .int .i64 q.parent.id.inc, .int .i64 q.parent.id.seq, .int .i64 q.parent.att, .int .i64 q.code, .int .i64 q.value, .bool q.more, .int .i64 q.delay] : List G)] = [q].map Packet.g := rfl
  have z0 : ([q].map Packet.g).length ≤ 1000 := by simp
  have z1 : [q].length + W1.length ≤ 1000 := by simp; omega
  have z2 : ([q] ++ W1).length + W2.length ≤ 1000 := by simp; omega
  refine Fv.of_awp Tryd.func8 rfl (by kernel_rfl) rfl (Nat.le_of_ble_eq_true rfl) ?_
  repeat' (conv => whnf
           first
           | (refine And.intro (by kernel_rfl) ?_)
           | (refine And.intro ⟨by kernel_rfl, by kernel_rfl⟩ ?_)
           | (refine Or.inl ⟨_, n1, ?_⟩)
           | (refine ⟨_, n1, ?_⟩)
           | (refine Or.inl ⟨_, n2, ?_⟩)
           | (refine ⟨_, n2, ?_⟩)
           | (refine cond_0 b1 ?_)
           | (refine cond_0 b2 ?_)
           | (refine cond_0 b3 ?_)
           | (refine Or.inl ⟨_, n3, ?_⟩)
           | (refine ⟨_, n3, ?_⟩)
           | (refine Or.inl ⟨_, n4, ?_⟩)
           | (refine ⟨_, n4, ?_⟩)
           | (refine Or.inl ⟨_, n5, ?_⟩)
           | (refine ⟨_, n5, ?_⟩)
           | (refine cond_1 b4 ?_)
           | (rw [g1])
           | (refine ⟨fitPk _ z0, ?_⟩)
           | (refine Or.inl ⟨_, n6, ?_⟩)
           | (refine ⟨_, n6, ?_⟩)
           | (refine cond_1 r1 ?_)
           | (refine ⟨appPk [q] W1 z1, ?_⟩)
           | (refine Or.inl ⟨_, n7, ?_⟩)
           | (refine ⟨_, n7, ?_⟩)
           | (refine cond_1 r2 ?_)
           | (refine ⟨appPk ([q] ++ W1) W2 z2, ?_⟩)
           | (rw [lm_tk])
           | (rw [lm_ln])
           | (refine cond_0 b5 ?_)
           | (refine Or.inl ⟨_, nb, ?_⟩)
           | (refine ⟨_, nb, ?_⟩)
           | (refine ⟨lm_le _ _, ?_⟩)
           | (rw [lm_all])
           | (refine Or.inl ⟨_, aw, ?_⟩)
           | (refine ⟨_, aw, ?_⟩)
           | (refine Or.inl ?_)
           | (refine cond_f ?_ ?_)
           | (refine ⟨_, ⟨by decide, rfl⟩, ?_⟩)
           | (refine cond_i (fun h => ?_) (fun h => ?_)))
  all_goals (conv => whnf)
  all_goals rfl
set_option maxHeartbeats 8000000 in
theorem may_in3 (hk : q.kind = 0) (ha : o.key.att > 0) (nb : Fv Tryd.prog 35 [.sl ((W1 ++ W2 ++ [P1, P2, P3]).map Packet.g)] (.bool true)) : Fv Tryd.prog 8 [.agg c.g, .int .i64 me, .agg o.g, .agg x.g, .int .i64 now, .int .i64 v] (.bool true) := by
  have b1 : decide (c.hops > 16) = false := decide_eq_false h1
  have b2 : decide (v < 0) = false := decide_eq_false h2
  have b3 : decide (v > 2147483647) = false := decide_eq_false h3
  have b4 : (q.kind != 0) = false := by simp [hk]
  have b5 : decide (o.key.att > 0) = true := decide_eq_true ha
  have r1 := okRows_P W1
  have r2 := okRows_P W2
  have z0 : (W1.map Packet.g).length ≤ 1000 := by rw [List.length_map]; omega
  have z2 : W1.length + W2.length ≤ 1000 := by omega
  have g3 : [([.int .i64 P1.kind, .int .i64 P1.from, .int .i64 P1.to, .int .i64 P1.key.id.node, .int .i64 P1.key.id.inc, .int .i64 P1.key.id.seq, .int .i64 P1.key.att, .int .i64 P1.hop, .int .i64 P1.stamp, .str P1.timeout, .int .i64 P1.until, .int .i64 P1.program, .int .i64 P1.root.node, .int .i64 P1.root.inc, .int .i64 P1.root.seq, .int .i64 P1.parent.id.node, .int .i64 P1.parent.id.inc, .int .i64 P1.parent.id.seq, .int .i64 P1.parent.att, .int .i64 P1.code, .int .i64 P1.value, .bool P1.more, .int .i64 P1.delay] : List G), [.int .i64 P2.kind, .int .i64 P2.from, .int .i64 P2.to, .int .i64 P2.key.id.node, .int .i64 P2.key.id.inc, .int .i64 P2.key.id.seq, .int .i64 P2.key.att, .int .i64 P2.hop, .int .i64 P2.stamp, .str P2.timeout, .int .i64 P2.until, .int .i64 P2.program, .int .i64 P2.root.node, .int .i64 P2.root.inc, .int .i64 P2.root.seq, .int .i64 P2.parent.id.node, .int .i64 P2.parent.id.inc, .int .i64 P2.parent.id.seq, .int .i64 P2.parent.att, .int .i64 P2.code, .int .i64 P2.value, .bool P2.more, .int .i64 P2.delay], [.int .i64 P3.kind, .int .i64 P3.from, .int .i64 P3.to, .int .i64 P3.key.id.node, .int .i64 P3.key.id.inc, .int .i64 P3.key.id.seq, .int .i64 P3.key.att, .int .i64 P3.hop, .int .i64 P3.stamp, .str P3.timeout, .int .i64 P3.until, .int .i64 P3.program, .int .i64 P3.root.node, .int .i64 P3.root.inc, .int .i64 P3.root.seq, .int .i64 P3.parent.id.node, .int .i64 P3.parent.id.inc, .int .i64 P3.parent.id.seq, .int .i64 P3.parent.att, .int .i64 P3.code, .int .i64 P3.value, .bool P3.more, .int .i64 P3.delay]] = [P1, P2, P3].map Packet.g := rfl
  have z3 : (W1 ++ W2).length + [P1, P2, P3].length ≤ 1000 := by simp; omega
  refine Fv.of_awp Tryd.func8 rfl (by kernel_rfl) rfl (Nat.le_of_ble_eq_true rfl) ?_
  repeat' (conv => whnf
           first
           | (refine And.intro (by kernel_rfl) ?_)
           | (refine And.intro ⟨by kernel_rfl, by kernel_rfl⟩ ?_)
           | (refine Or.inl ⟨_, n1, ?_⟩)
           | (refine ⟨_, n1, ?_⟩)
           | (refine Or.inl ⟨_, n2, ?_⟩)
           | (refine ⟨_, n2, ?_⟩)
           | (refine cond_0 b1 ?_)
           | (refine cond_0 b2 ?_)
           | (refine cond_0 b3 ?_)
           | (refine Or.inl ⟨_, n3, ?_⟩)
           | (refine ⟨_, n3, ?_⟩)
           | (refine Or.inl ⟨_, n4, ?_⟩)
           | (refine ⟨_, n4, ?_⟩)
           | (refine Or.inl ⟨_, n5, ?_⟩)
           | (refine ⟨_, n5, ?_⟩)
           | (refine cond_0 b4 ?_)
           | (refine Or.inl ⟨_, n6, ?_⟩)
           | (refine ⟨_, n6, ?_⟩)
           | (refine cond_1 r1 ?_)
           | (refine ⟨fitPk _ z0, ?_⟩)
           | (refine Or.inl ⟨_, n7, ?_⟩)
           | (refine ⟨_, n7, ?_⟩)
           | (refine cond_1 r2 ?_)
           | (refine ⟨appPk W1 W2 z2, ?_⟩)
           | (rw [lm_tk])
           | (rw [lm_ln])
           | (refine cond_1 b5 ?_)
           | (refine cond_f ?_ ?_)
           | (refine ⟨_, ⟨by decide, rfl⟩, ?_⟩)
           | (refine cond_i (fun h => ?_) (fun h => ?_)))
  all_goals (conv => whnf)
  repeat' (conv => whnf
           first
           | (refine And.intro (by kernel_rfl) ?_)
           | (refine And.intro ⟨by kernel_rfl, by kernel_rfl⟩ ?_)
           | (refine Or.inl ⟨_, n8, ?_⟩)
           | (refine ⟨_, n8, ?_⟩)
           | (refine Or.inl ⟨_, n9, ?_⟩)
           | (refine ⟨_, n9, ?_⟩)
           | (refine Or.inl ⟨_, n10, ?_⟩)
           | (refine ⟨_, n10, ?_⟩)
           | (refine ⟨appPk (W1 ++ W2) [P1, P2, P3] z3, ?_⟩)
           | (refine Or.inl ?_)
           | (refine cond_f ?_ ?_)
           | (refine ⟨_, ⟨by decide, rfl⟩, ?_⟩)
           | (refine cond_i (fun h => ?_) (fun h => ?_)))
  all_goals (conv => whnf)
  repeat' (conv => whnf
           first
           | (refine And.intro (by kernel_rfl) ?_)
           | (refine And.intro ⟨by kernel_rfl, by kernel_rfl⟩ ?_)
           | (rw [g3])
           | (rw [lm_tk])
           | (rw [lm_ln])
           | (refine Or.inl ⟨_, nb, ?_⟩)
           | (refine ⟨_, nb, ?_⟩)
           | (refine ⟨lm_le _ _, ?_⟩)
           | (rw [lm_all])
           | (refine Or.inl ⟨_, aw, ?_⟩)
           | (refine ⟨_, aw, ?_⟩)
           | (refine cond_f ?_ ?_)
           | (refine ⟨_, ⟨by decide, rfl⟩, ?_⟩)
           | (refine cond_i (fun h => ?_) (fun h => ?_)))
  all_goals (conv => whnf)
  all_goals rfl
set_option maxHeartbeats 8000000 in
theorem may_in4 (hk : q.kind = 0) (ha : ¬ o.key.att > 0) (nb : Fv Tryd.prog 35 [.sl ((W1 ++ W2).map Packet.g)] (.bool true)) : Fv Tryd.prog 8 [.agg c.g, .int .i64 me, .agg o.g, .agg x.g, .int .i64 now, .int .i64 v] (.bool true) := by
  have b1 : decide (c.hops > 16) = false := decide_eq_false h1
  have b2 : decide (v < 0) = false := decide_eq_false h2
  have b3 : decide (v > 2147483647) = false := decide_eq_false h3
  have b4 : (q.kind != 0) = false := by simp [hk]
  have b5 : decide (o.key.att > 0) = false := decide_eq_false ha
  have r1 := okRows_P W1
  have r2 := okRows_P W2
  have z0 : (W1.map Packet.g).length ≤ 1000 := by rw [List.length_map]; omega
  have z2 : W1.length + W2.length ≤ 1000 := by omega
  refine Fv.of_awp Tryd.func8 rfl (by kernel_rfl) rfl (Nat.le_of_ble_eq_true rfl) ?_
  repeat' (conv => whnf
           first
           | (refine And.intro (by kernel_rfl) ?_)
           | (refine And.intro ⟨by kernel_rfl, by kernel_rfl⟩ ?_)
           | (refine Or.inl ⟨_, n1, ?_⟩)
           | (refine ⟨_, n1, ?_⟩)
           | (refine Or.inl ⟨_, n2, ?_⟩)
           | (refine ⟨_, n2, ?_⟩)
           | (refine cond_0 b1 ?_)
           | (refine cond_0 b2 ?_)
           | (refine cond_0 b3 ?_)
           | (refine Or.inl ⟨_, n3, ?_⟩)
           | (refine ⟨_, n3, ?_⟩)
           | (refine Or.inl ⟨_, n4, ?_⟩)
           | (refine ⟨_, n4, ?_⟩)
           | (refine Or.inl ⟨_, n5, ?_⟩)
           | (refine ⟨_, n5, ?_⟩)
           | (refine cond_0 b4 ?_)
           | (refine Or.inl ⟨_, n6, ?_⟩)
           | (refine ⟨_, n6, ?_⟩)
           | (refine cond_1 r1 ?_)
           | (refine ⟨fitPk _ z0, ?_⟩)
           | (refine Or.inl ⟨_, n7, ?_⟩)
           | (refine ⟨_, n7, ?_⟩)
           | (refine cond_1 r2 ?_)
           | (refine ⟨appPk W1 W2 z2, ?_⟩)
           | (rw [lm_tk])
           | (rw [lm_ln])
           | (refine cond_0 b5 ?_)
           | (refine Or.inl ⟨_, nb, ?_⟩)
           | (refine ⟨_, nb, ?_⟩)
           | (refine ⟨lm_le _ _, ?_⟩)
           | (rw [lm_all])
           | (refine Or.inl ⟨_, aw, ?_⟩)
           | (refine ⟨_, aw, ?_⟩)
           | (refine Or.inl ?_)
           | (refine cond_f ?_ ?_)
           | (refine ⟨_, ⟨by decide, rfl⟩, ?_⟩)
           | (refine cond_i (fun h => ?_) (fun h => ?_)))
  all_goals (conv => whnf)
  all_goals rfl
end
end Go.Proofs.YtfacmphjplablaaDoor.Cn
namespace Go.Proofs.YtfacmphjplablaaDoor.Cn
open Go Go.Proofs Go.Proofs.YtfacmphjplablaaDoor.Av Go.Proofs.YtfacmphjplablaaDoor.Sp
set_option linter.unusedVariables false
set_option linter.unusedSimpArgs false
set_option linter.unusedSectionVars false
set_option maxRecDepth 100000
attribute [local irreducible] Fv Fp

theorem okP_of {p : Packet} (h1 : 0 ≤ p.from ∧ p.from < 64 ∧ 0 ≤ p.to ∧ p.to < 64) (h2 : okKey p.key = true) (h3 : 1 ≤ p.key.att) (h4 : cleanP p = p) (h5 : okKind p = true) : okP p = true := by
  unfold okP; rw [(okHead_iff p).2 ⟨h1, h2, h3, h4⟩, h5]; rfl
theorem tick_clamp (n : Int) : tickI (clamp n) = true := (tickI_iff _).2 (clamp_bd n)
structure MayF (me : Int) (o : Owner) : Prop where
  key : okKey o.key = true
  root : okId o.root = true
  me : 0 ≤ me ∧ me ≤ 63
  fr : 0 ≤ o.from ∧ o.from ≤ 63
  hop : 0 ≤ o.hop
  len : o.calls.length ≤ 30
  call : ∀ c ∈ o.calls, okCallR c = true ∧ 1 ≤ c.att
theorem mayF {me : Int} {o : Owner} (h : okMay me o = true) : MayF me o := by
  unfold okMay okHeadO at h
  rw [Bool.and_eq_true, Bool.and_eq_true, Bool.and_eq_true, decide_eq_true_eq] at h
  obtain ⟨⟨⟨h1, h2⟩, h3, h4, h5, h6, h7, h8⟩, h9⟩ := h
  refine ⟨h1, h2, ⟨h3, h4⟩, ⟨h5, h6⟩, h7, h8, fun c hc => ?_⟩
  have := List.all_eq_true.1 h9 c hc
  unfold okC1 at this
  rw [Bool.and_eq_true, decide_eq_true_eq] at this
  exact this
theorem wait_ok {me u kind : Int} {o : Owner} (h : MayF me o) (hk : (kind = 3 ∧ u = 0) ∨ (kind = 4 ∧ tickI u = true)) (p : Packet) (hp : p ∈ waitL kind me u o.calls) : okP p = true := by
  unfold waitL at hp
  obtain ⟨c, hc, rfl⟩ := List.mem_map.1 hp
  obtain ⟨h1, h2⟩ := h.call c (List.mem_filter.1 hc).1
  obtain ⟨k1, k2, k3, k4, k5, k6, k7⟩ := (okCallR_iff c).1 h1
  obtain ⟨m1, m2⟩ := h.me
  refine okP_of (show 0 ≤ me ∧ me < 64 ∧ 0 ≤ c.to ∧ c.to < 64 by omega) ((okKey_iff _).2 ⟨k1, show 0 ≤ c.att ∧ c.att ≤ 5 by omega⟩) h2 ?_ ?_
  · unfold cleanP waitP zP
    rcases hk with ⟨rfl, rfl⟩ | ⟨rfl, _⟩ <;> rfl
  · unfold okKind waitP
    rcases hk with ⟨rfl, rfl⟩ | ⟨rfl, hu⟩
    · rfl
    · exact hu
theorem reply_ok {me v n : Int} {o : Owner} (h : MayF me o) (ha : o.key.att > 0) (hn : 0 ≤ n ∧ n ≤ 5) (hv : 0 ≤ v ∧ v ≤ 2147483647) : okP (replyP me o n v) = true := by
  obtain ⟨m1, m2⟩ := h.me
  obtain ⟨f1, f2⟩ := h.fr
  refine okP_of (show 0 ≤ me ∧ me < 64 ∧ 0 ≤ o.from ∧ o.from < 64 by omega) h.key (show 1 ≤ o.key.att by omega) rfl ?_
  show (right n && decide (0 ≤ v ∧ v < 2147483648 ∧ (false = true → n = 0 ∧ v = 0))) = true
  rw [(right_iff n).2 (by omega), decide_eq_true ⟨by omega, by omega, fun e => by cases e⟩]; rfl
theorem more_ok {me : Int} {o : Owner} (h : MayF me o) (ha : o.key.att > 0) : okP (moreP me o) = true := by
  obtain ⟨m1, m2⟩ := h.me
  obtain ⟨f1, f2⟩ := h.fr
  refine okP_of (show 0 ≤ me ∧ me < 64 ∧ 0 ≤ o.from ∧ o.from < 64 by omega) h.key (show 1 ≤ o.key.att by omega) rfl ?_
  show (right 0 && decide ((0 : Int) ≤ 0 ∧ (0 : Int) < 2147483648 ∧ (true = true → (0 : Int) = 0 ∧ (0 : Int) = 0))) = true
  rfl
theorem refuse_ok {me d : Int} {o : Owner} (h : MayF me o) (ha : o.key.att > 0) (hd : -1 ≤ d ∧ d ≤ 5) : okP (refuseP me o d) = true := by
  obtain ⟨m1, m2⟩ := h.me
  obtain ⟨f1, f2⟩ := h.fr
  refine okP_of (show 0 ≤ me ∧ me < 64 ∧ 0 ≤ o.from ∧ o.from < 64 by omega) h.key (show 1 ≤ o.key.att by omega) rfl ?_
  show decide (-1 ≤ d ∧ d ≤ 1125899906842624) = true
  exact decide_eq_true (by omega)
theorem send_ok (c : Config) {me now : Int} {o : Owner} {x : Sp.Call} (h : MayF me o) (hx : okCallR x = true) (hc : ¬ c.hops > 16) : (sendF c me o x now).2 = zP ∨ ((sendF c me o x now).2.kind = 1 ∧ okP (sendF c me o x now).2 = true) := by
  unfold sendF
  split
  · exact .inl rfl
  · rename_i hb
    split
    · exact .inl rfl
    · rename_i hh
      split
      · exact .inl rfl
      · right
        refine ⟨rfl, ?_⟩
        obtain ⟨k1, k2, k3, k4, k5, k6, k7⟩ := (okCallR_iff x).1 hx
        obtain ⟨m1, m2⟩ := h.me
        have ho := h.hop
        have hatt : x.att < 5 := by
          by_cases hq : (x.state = 0 ∨ x.state = 2) ∧ x.att < 5
          · exact hq.2
          · exact absurd (by unfold cBegin; rw [if_neg hq]) hb
        have hw : IntKind.i64.wrap (x.att + 1) = x.att + 1 := wrap_i64 ⟨by omega, by omega⟩
        have he : (cBegin x now).att = x.att + 1 := by
          by_cases hq : (x.state = 0 ∨ x.state = 2) ∧ x.att < 5
          · unfold cBegin; rw [if_pos hq]; exact hw
          · exact absurd (by unfold cBegin; rw [if_neg hq]) hb
        have hi : (cBegin x now).id = x.id := by unfold cBegin; split <;> rfl
        have hop : IntKind.i64.wrap (o.hop + 1) = o.hop + 1 := wrap_i64 ⟨by omega, by omega⟩
        refine okP_of (show 0 ≤ me ∧ me < 64 ∧ 0 ≤ x.to ∧ x.to < 64 by omega) ((okKey_iff _).2 ⟨?_, ?_⟩) ?_ rfl ?_
        · show okId (cBegin x now).id = true; rw [hi]; exact k1
        · show 0 ≤ (cBegin x now).att ∧ (cBegin x now).att ≤ 5; rw [he]; omega
        · show 1 ≤ (cBegin x now).att; rw [he]; omega
        · show okCall _ = true
          refine (okCall_iff _).2 ⟨⟨?_, ?_, ?_, ?_, ?_⟩, clamp_bd now, clamp_bd o.until, h.root, h.key⟩
          · show (dec (enc (sub o.deadline now))).2 = 0; rw [dec_enc]
          · show 1 ≤ IntKind.i64.wrap (o.hop + 1); rw [hop]; omega
          · show IntKind.i64.wrap (o.hop + 1) ≤ 16; rw [hop]; omega
          · show 0 ≤ x.program; omega
          · show x.program < 16; omega
theorem law26_SenderMay (c : Config) (me : Int) (o : Owner) (x : Sp.Call) (now v : Int) : Fv Tryd.prog 8 [.agg c.g, .int .i64 me, .agg o.g, .agg x.g, .int .i64 now, .int .i64 v] (.bool true) := by
  have n1 := law26_may me o
  have n2 := law26_one x
  by_cases out : okMay me o = false ∨ okCallR x = false ∨ c.hops > 16 ∨ v < 0 ∨ v > 2147483647
  · exact may_out c me o x now v _ _ n1 n2 law26_awake out
  obtain ⟨o1, out⟩ := not_or.1 out
  obtain ⟨o2, out⟩ := not_or.1 out
  obtain ⟨h1, out⟩ := not_or.1 out
  obtain ⟨h2, h3⟩ := not_or.1 out
  have o1 : okMay me o = true := by simpa using o1
  have o2 : okCallR x = true := by simpa using o2
  rw [o1] at n1
  rw [o2] at n2
  have F := mayF o1
  have hl := F.len
  have k := (okCallR_iff x).1 o2
  have hw : IntKind.i64.wrap (x.att - 1) = x.att - 1 := wrap_i64 ⟨by omega, by omega⟩
  have w1 := waitL_len 3 me 0 o.calls
  have w2 := waitL_len 4 me (clamp o.until) o.calls
  have a1 : ∀ p ∈ waitL 3 me 0 o.calls, okP p = true := wait_ok F (.inl ⟨rfl, rfl⟩)
  have a2 : ∀ p ∈ waitL 4 me (clamp o.until) o.calls, okP p = true := wait_ok F (.inr ⟨rfl, tick_clamp _⟩)
  have n3 := law23_Mine o hl
  have n4 := law23_One x
  have n5 := (sender_Send c me o x now).1
  have n6 := sender_Cancels me o (by omega)
  have n7 := sender_Keeps me (clamp o.until) o (by omega) (ticks_Clamp o.until)
  have n8 := sender_Reply me o x.att v
  have n9 := sender_More me o
  have n10 := sender_Refuse me o (IntKind.i64.wrap (x.att - 1))
  have hs := send_ok c (now := now) F o2 h1
  generalize (sendF c me o x now).2 = q at *
  generalize (sendF c me o x now).1 = y at *
  generalize waitL 3 me 0 o.calls = W1 at *
  generalize waitL 4 me (clamp o.until) o.calls = W2 at *
  have three : o.key.att > 0 → ∀ p ∈ [replyP me o x.att v, moreP me o, refuseP me o (IntKind.i64.wrap (x.att - 1))], okP p = true := fun ha p hp => by
    simp only [List.mem_cons, List.not_mem_nil, or_false] at hp
    rcases hp with rfl | rfl | rfl
    · exact reply_ok F ha (by omega) (by omega)
    · exact more_ok F ha
    · exact refuse_ok F ha (by omega)
  rcases hs with hz | ⟨hq, hok⟩
  · have hk : q.kind = 0 := by rw [hz]; rfl
    by_cases ha : o.key.att > 0
    · refine may_in3 c me o x y now v q _ _ _ W1 W2 n1 n2 law26_awake h1 h2 h3 n3 n4 n5 n6 n7 n8 n9 n10 (by omega) (by omega) hk ha (law26_back _ (fun p hp => ?_) (by simp; omega))
      rw [List.mem_append, List.mem_append] at hp
      rcases hp with (hp | hp) | hp
      · exact a1 p hp
      · exact a2 p hp
      · exact three ha p hp
    · refine may_in4 c me o x y now v q _ _ _ W1 W2 n1 n2 law26_awake h1 h2 h3 n3 n4 n5 n6 n7 n8 n9 n10 (by omega) (by omega) hk ha (law26_back _ (fun p hp => ?_) (by simp; omega))
      rw [List.mem_append] at hp
      rcases hp with hp | hp
      · exact a1 p hp
      · exact a2 p hp
  · have hk : q.kind ≠ 0 := by omega
    by_cases ha : o.key.att > 0
    · refine may_in1 c me o x y now v q _ _ _ W1 W2 n1 n2 law26_awake h1 h2 h3 n3 n4 n5 n6 n7 n8 n9 n10 (by omega) (by omega) hk ha (law26_back _ (fun p hp => ?_) (by simp; omega))
      rw [List.mem_append, List.mem_append, List.mem_append, List.mem_singleton] at hp
      rcases hp with ((rfl | hp) | hp) | hp
      · exact hok
      · exact a1 p hp
      · exact a2 p hp
      · exact three ha p hp
    · refine may_in2 c me o x y now v q _ _ _ W1 W2 n1 n2 law26_awake h1 h2 h3 n3 n4 n5 n6 n7 n8 n9 n10 (by omega) (by omega) hk ha (law26_back _ (fun p hp => ?_) (by simp; omega))
      rw [List.mem_append, List.mem_append, List.mem_singleton] at hp
      rcases hp with (rfl | hp) | hp
      · exact hok
      · exact a1 p hp
      · exact a2 p hp
end Go.Proofs.YtfacmphjplablaaDoor.Cn
namespace Go.Proofs.YtfacmphjplablaaDoor.Av
open Go Go.RowKit Go.Deep Go.ChangeShapes Go.WideShapes
set_option linter.unusedVariables false

/-- Nothing is the call's own. -/
def C0 : Cx := Cx.out (fun _ => False)
structure Reads (w : World) (gs : List G) (cs : List Value) : Prop where
  len : cs.length = gs.length
  one : ∀ v ∈ cs, v.oneCell' = true
  rep : ∀ (i : Nat) g v, gs[i]? = some g → cs[i]? = some v → Rep C0 w g v
/-- Whatever is read as a value of type T reads as R x, and F holds of x. -/
def Opens {α : Type} (P : Program) (T : TypeId) (R : α → List G) (n : Nat) (F : α → Prop) : Prop :=
  P.cellsOf T = n ∧ (∀ x, (R x).length = n ∧ ∀ g ∈ R x, g.closed0 = true) ∧ ∀ (H : Type) (enc : TypeId × Value → H) (w : World) (spare : Nat → Bool) (held : Bool) (fuel : Nat) (cs : List Value) (d : DataW H) (ps : List MemPlace),
    DataW.trod enc P w 0 spare held fuel T cs = some (d, ps) → (∀ n ∈ d.weights P T, n ≤ reachBytes) → ∃ x, Reads w (R x) cs ∧ F x

theorem reads_one {w : World} {g : G} {v : Value} (hr : Rep C0 w g v) (hv : v.oneCell' = true) : Reads w [g] [v] :=
  ⟨rfl, fun u hu => by simp at hu; subst hu; exact hv, fun i g' v' hg hv' => by
    cases i with
    | zero => simp at hg hv'; subst hg; subst hv'; exact hr
    | succ i => simp at hg⟩
theorem Opens.imp {α : Type} {P : Program} {T : TypeId} {R : α → List G} {n : Nat} {F F' : α → Prop} (h : Opens P T R n F) (hi : ∀ x, F x → F' x) : Opens P T R n F' :=
  ⟨h.1, h.2.1, fun H enc w spare held fuel cs d ps ht hn => by
    obtain ⟨x, hK, hF⟩ := h.2.2 H enc w spare held fuel cs d ps ht hn
    exact ⟨x, hK, hi x hF⟩⟩
theorem opens_int {P : Program} {T : TypeId} {ik : IntKind} (hu : P.underlying T = some (.int ik)) (hc : P.cellsOf T = 1) : Opens P T (fun x : Int => [G.int ik x]) 1 (fun x => (Lit.int ik x).wf = true) :=
  ⟨hc, fun x => ⟨rfl, fun g hg => by simp at hg; subst hg; rfl⟩, fun H enc w spare held fuel cs d ps h _ => by
    obtain ⟨n, rfl, _, hw⟩ := DataW.trod_int hu h
    exact ⟨n, reads_one (.int _ _) rfl, hw⟩⟩
theorem opens_bool {P : Program} {T : TypeId} (hu : P.underlying T = some .bool) (hc : P.cellsOf T = 1) : Opens P T (fun x : Bool => [G.bool x]) 1 (fun _ => True) :=
  ⟨hc, fun x => ⟨rfl, fun g hg => by simp at hg; subst hg; rfl⟩, fun H enc w spare held fuel cs d ps h _ => by
    obtain ⟨b, rfl, _⟩ := DataW.trod_bool hu h
    exact ⟨b, reads_one (.bool _) rfl, trivial⟩⟩
theorem opens_string {P : Program} {T : TypeId} (hu : P.underlying T = some .string) (hc : P.cellsOf T = 1) : Opens P T (fun x : ByteArray => [G.str x]) 1 (fun s => s.size ≤ 140737488351232) :=
  ⟨hc, fun x => ⟨rfl, fun g hg => by simp at hg; subst hg; rfl⟩, fun H enc w spare held fuel cs d ps h hn => by
    obtain ⟨s, rfl, hx, _⟩ := DataW.trod_string hu h
    obtain ⟨rfl, rfl⟩ := Prod.mk.inj hx
    refine ⟨s, reads_one (.str _) rfl, ?_⟩
    have h1 := hn s.data.toList.length (by unfold DataW.weights; exact List.mem_singleton.2 rfl)
    have e2 : s.data.toList.length = s.size := by rw [Array.length_toList]; rfl
    rw [e2] at h1; exact h1⟩

theorem weights_mem_all {H : Type} {P : Program} {e : TypeId} : ∀ {ds : List (DataW H)} {d : DataW H}, d ∈ ds → ∀ n ∈ d.weights P e, n ∈ DataW.weightsAll P e ds
  | d0 :: ds, d, hd, n, hn => by
    simp only [DataW.weightsAll, List.mem_append]
    rcases List.mem_cons.1 hd with rfl | h
    · exact Or.inl hn
    · exact Or.inr (weights_mem_all h n hn)
theorem build_list {α : Type} (p : Nat → α → Prop) : ∀ n, (∀ i, i < n → ∃ x, p i x) → ∃ xs : List α, xs.length = n ∧ ∀ (i : Nat) (x : α), xs[i]? = some x → p i x
  | 0, _ => ⟨[], rfl, fun i x h => by simp at h⟩
  | n + 1, h => by
    obtain ⟨xs, hl, hp⟩ := build_list p n (fun i hi => h i (by omega))
    obtain ⟨x, hx⟩ := h n (by omega)
    refine ⟨xs ++ [x], by simp [hl], fun i y hy => ?_⟩
    by_cases hi : i < n
    · exact hp i y (by rwa [List.getElem?_append_left (by omega)] at hy)
    · rw [List.getElem?_append_right (by omega)] at hy
      obtain ⟨hz, hq⟩ : i - xs.length = 0 ∧ y = x := by
        cases hz : i - xs.length with
        | zero => rw [hz] at hy; simp at hy; exact ⟨rfl, hy.symm⟩
        | succ j => rw [hz] at hy; simp at hy
      have hin : i = n := by omega
      rw [hin, hq]; exact hx

theorem cell_block {w : World} {a : Addr} {v : Value} (h : w.cell? a = some v) : a.spot = none ∧ a.block < w.heap.size := by
  unfold World.cell? at h
  split at h
  · rename_i c _ _ hb
    split at h
    · cases h
    · rename_i hs
      exact ⟨by simpa using hs, (Array.getElem?_eq_some_iff.1 hb).1⟩
  · cases h

theorem opens_slice {α : Type} {P : Program} {T e : TypeId} {R : α → List G} {n : Nat} {F : α → Prop} (hu : P.underlying T = some (.slice e)) (hc : P.cellsOf T = 1) (hE : Opens P e R (n + 1) F) :
    Opens P T (fun xs : List α => [G.sl (xs.map R)]) 1 (fun xs => (∀ x ∈ xs, F x) ∧ xs.length * P.bytesOf e ≤ 140737488351232) :=
  ⟨hc, fun x => ⟨rfl, fun g hg => by simp at hg; subst hg; rfl⟩, fun H enc w spare held fuel cs d ps h hn => by
    rcases open_slice hu h with ⟨rfl, hx⟩ | ⟨a, len, cap, m, f, D, Pl, rfl, hb, hl, hm, hmm, hx, hel⟩
    · exact ⟨[], reads_one (.slnil none 0 (fun _ => rfl)) rfl, fun x hx => by simp at hx, by simp⟩
    · obtain ⟨rfl, rfl⟩ := Prod.mk.inj hx
      have hlm : len ≤ m := by rw [hmm]; split <;> omega
      have e0 : reachBytes = 140737488351232 := rfl
      have hW : ∀ i, i < len → ∀ n ∈ (D i).weights P e, n ≤ reachBytes := fun i hi n hni => hn n (by
        simp only [DataW.weights, hu, List.mem_cons, List.mem_append]
        exact Or.inr (Or.inl (weights_mem_all (List.mem_map.2 ⟨i, by simpa using hi, rfl⟩) n hni)))
      have hS : (len + (m - len)) * P.bytesOf e ≤ reachBytes := hn _ (by
        simp only [DataW.weights, hu, List.mem_cons]
        left; simp)
      obtain ⟨xs, hlen, hp⟩ := build_list (fun i x => ∃ cs', w.cells? 0 (a.add (i * (n + 1))) (n + 1) = some cs' ∧ Reads w (R x) cs' ∧ F x) len (fun i hi => by
        obtain ⟨cs', h1, h2⟩ := hel i (by omega)
        obtain ⟨x, hK, hF⟩ := hE.2.2 H enc w spare held f cs' _ _ h2 (hW i hi)
        exact ⟨x, cs', by rw [← hE.1]; exact h1, hK, hF⟩)
      subst hlen
      refine ⟨xs, reads_one ?_ rfl, fun x hx => ?_, ?_⟩
      · by_cases h0 : xs = []
        · subst h0; exact .slnil (some a) cap (fun e => by cases e)
        obtain ⟨x0, ys, rfl⟩ := List.exists_cons_of_ne_nil h0
        obtain ⟨hs, hlt⟩ : a.spot = none ∧ a.block < w.heap.size := by
          obtain ⟨cs', h1, hK, _⟩ := hp 0 x0 rfl
          obtain ⟨_, hl', hcc⟩ := World.cells?_some h1
          have := hcc 0 (by omega)
          rw [List.getElem?_eq_getElem (by omega)] at this
          have e1 : (a.add (0 * (n + 1))).add 0 = a := by simp [Addr.add]
          rw [e1] at this
          exact cell_block this
        generalize hxs : x0 :: ys = xs at *
        have hlm' : (xs.map R).length = xs.length := by simp
        rw [← hlm']
        refine .sl (xs.map R) a cap (n + 1) (fun i j => (w.cell? ⟨a.block, a.off + i * (n + 1) + j, none⟩).getD undef) hs hlt (fun h => h) (by rw [hlm']; omega) (fun r hr => ?_) (fun r hr g hg => ?_) (fun i r j g h1 h2 => ?_) (fun i r j g h1 h2 => ?_)
        · obtain ⟨x, _, rfl⟩ := List.mem_map.1 hr; exact (hE.2.1 x).1
        · obtain ⟨x, _, rfl⟩ := List.mem_map.1 hr; exact (hE.2.1 x).2 g hg
        all_goals
          rw [List.getElem?_map] at h1
          obtain ⟨x, hx, rfl⟩ := Option.map_eq_some_iff.1 h1
          obtain ⟨cs', q1, hK, _⟩ := hp i x hx
          obtain ⟨_, hl', hcc⟩ := World.cells?_some q1
          have hj : j < n + 1 := by rw [← (hE.2.1 x).1]; exact (List.getElem?_eq_some_iff.1 h2).1
          have hq := hcc j hj
          have ea : (a.add (i * (n + 1))).add j = ⟨a.block, a.off + i * (n + 1) + j, none⟩ := by
            rw [Deep.add_add]
            unfold Addr.add
            obtain ⟨ab, ao, asp⟩ := a
            simp only at hs; subst hs
            split
            · rename_i hz; simp [show i * (n + 1) = 0 by omega, show j = 0 by omega]
            · simp [Nat.add_assoc]
          rw [ea, List.getElem?_eq_getElem (by omega)] at hq
          rw [hq]
        · rfl
        · exact hK.rep j g _ h2 (List.getElem?_eq_getElem (by omega))
      · obtain ⟨i, hi⟩ := List.mem_iff_getElem?.1 hx
        obtain ⟨_, _, _, hF⟩ := hp i x hi
        exact hF
      · have : xs.length * P.bytesOf e ≤ (xs.length + (m - xs.length)) * P.bytesOf e := Nat.mul_le_mul_right _ (by omega)
        omega⟩

def OpensFs {α : Type} (P : Program) (fs : List Field) (off : Nat) (R : α → List G) (n : Nat) (F : α → Prop) : Prop :=
  (∀ x, (R x).length = n ∧ ∀ g ∈ R x, g.closed0 = true) ∧ ∀ (H : Type) (enc : TypeId × Value → H) (w : World) (spare : Nat → Bool) (held : Bool) (m : Nat) (cs : List Value) (xs : List (DataW H × List MemPlace)), cs.length = off + n → xs.length = fs.length →
    (∀ (i : Nat) (f : Field), fs[i]? = some f → DataW.trod enc P w 0 spare held m f.type ((cs.drop f.offset).take (P.cellsOf f.type)) = xs[i]?) →
    (∀ n ∈ DataW.weightsEach P (fs.map (·.type)) (xs.map (·.1)), n ≤ reachBytes) → ∃ x, Reads w (R x) (cs.drop off) ∧ F x
theorem fs_one {α : Type} {P : Program} {f : Field} {off : Nat} {R : α → List G} {n : Nat} {F : α → Prop} (ho : f.offset = off) (hO : Opens P f.type R n F) : OpensFs P [f] off R n F :=
  ⟨hO.2.1, fun H enc w spare held m cs xs hc hx hr hn => by
    subst ho
    match xs, hx with
    | [y], _ =>
      have h0 := hr 0 f rfl
      rw [hO.1, List.take_of_length_le (by rw [List.length_drop]; omega)] at h0
      exact hO.2.2 H enc w spare held m _ y.1 y.2 h0 (fun m hm => hn m (by simpa [DataW.weightsEach] using hm))⟩
theorem Reads.append {w : World} {gs hs : List G} {cs ds : List Value} (h : Reads w gs cs) (h' : Reads w hs ds) : Reads w (gs ++ hs) (cs ++ ds) :=
  ⟨by simp [h.len, h'.len], fun v hv => (List.mem_append.1 hv).elim (h.one v) (h'.one v), fun i g v hg hv => by
    by_cases hi : i < gs.length
    · rw [List.getElem?_append_left hi] at hg
      rw [List.getElem?_append_left (by rw [h.len]; exact hi)] at hv
      exact h.rep i g v hg hv
    · rw [List.getElem?_append_right (by omega)] at hg
      rw [List.getElem?_append_right (by rw [h.len]; omega), h.len] at hv
      exact h'.rep _ g v hg hv⟩
theorem fs_cons {α β : Type} {P : Program} {f : Field} {fs : List Field} {off off' : Nat} {R : α → List G} {R' : β → List G} {n n' : Nat} {F : α → Prop} {F' : β → Prop} (ho : f.offset = off) (ho' : off + n = off') (hO : Opens P f.type R n F) (hR : OpensFs P fs off' R' n' F') :
    OpensFs P (f :: fs) off (fun x : α × β => R x.1 ++ R' x.2) (n + n') (fun x => F x.1 ∧ F' x.2) :=
  ⟨fun x => ⟨by rw [List.length_append, (hO.2.1 x.1).1, (hR.1 x.2).1], fun g hg => (List.mem_append.1 hg).elim ((hO.2.1 x.1).2 g) ((hR.1 x.2).2 g)⟩, fun H enc w spare held m cs xs hc hx hr hn => by
    subst ho; subst ho'
    match xs, hx with
    | y :: ys, hx =>
      have h0 := hr 0 f rfl
      rw [hO.1] at h0
      obtain ⟨a, hK, hF⟩ := hO.2.2 H enc w spare held m _ y.1 y.2 h0 (fun m hm => hn m (by simp only [List.map_cons, DataW.weightsEach, List.mem_append]; exact Or.inl hm))
      obtain ⟨b, hK', hF'⟩ := hR.2 H enc w spare held m cs ys (by omega) (by simpa using hx) (fun i g hg => by simpa using hr (i + 1) g (by simpa using hg)) (fun m hm => hn m (by simp only [List.map_cons, DataW.weightsEach, List.mem_append]; exact Or.inr hm))
      refine ⟨(a, b), ?_, hF, hF'⟩
      have := hK.append hK'
      rwa [← List.drop_drop, List.take_append_drop] at this⟩
theorem opens_struct {α : Type} {P : Program} {T : TypeId} {fs : Array Field} {R : α → List G} {n : Nat} {F : α → Prop} (hu : P.underlying T = some (.struct fs)) (hc : P.cellsOf T = n) (hf : OpensFs P fs.toList 0 R n F) : Opens P T R n F :=
  ⟨hc, hf.1, fun H enc w spare held fuel cs d ps h hn => by
    obtain ⟨xs, m, _, hx, hl, hxl, hr⟩ := DataW.trod_struct hu h
    obtain ⟨rfl, rfl⟩ := Prod.mk.inj hx
    have := hf.2 H enc w spare held m cs xs (by omega) (by simpa using hxl) (fun i f hi => hr i f (by simpa using hi)) (fun m hm => hn m (by simp only [DataW.weights, hu]; exact hm))
    simpa using this⟩
/-- The same, in a type of one's own. -/
theorem opens_iso {α β : Type} {P : Program} {T : TypeId} {R : α → List G} {n : Nat} {F : α → Prop} (f : β → α) (g : α → β) (hfg : ∀ a, f (g a) = a) (hO : Opens P T R n F) {R' : β → List G} (hR : ∀ b, R' b = R (f b)) : Opens P T R' n (fun b => F (f b)) :=
  ⟨hO.1, fun x => by rw [hR]; exact hO.2.1 (f x), fun H enc w spare held fuel cs d ps h hn => by
    obtain ⟨x, hK, hF⟩ := hO.2.2 H enc w spare held fuel cs d ps h hn
    exact ⟨g x, by rw [hR, hfg]; exact hK, by show F (f (g x)); rw [hfg]; exact hF⟩⟩

/-- A value's cells as a value: a struct's, or another one's. -/
theorem param_struct {α H : Type} {P : Program} {T : TypeId} {fs : Array Field} {R : α → List G} {n : Nat} {F : α → Prop} {enc : TypeId × Value → H} {w : World} {r : Reach} {b : Nat} {spare : Nat → Bool} {held : Bool} {v : Value} {d : DataW H} {p : List MemPlace}
    (hu : P.underlying T = some (.struct fs)) (hO : Opens P T R n F) (hv : Value.okWide P w r b T v) (h : DataW.Trod enc P w 0 spare held T v d p) (hn : ∀ n ∈ d.weights P T, n ≤ reachBytes) :
    ∃ x, Rep C0 w (.agg (R x)) v ∧ F x := by
  obtain ⟨cs, rfl, _⟩ := okWide_struct hu hv
  obtain ⟨fuel, hf⟩ := h
  obtain ⟨x, hK, hF⟩ := hO.2.2 H enc w spare held fuel _ d p hf hn
  refine ⟨x, ?_, hF⟩
  have e : (Value.agg cs).cells.toList = cs.toList := rfl
  rw [e] at hK
  exact .agg _ cs.toList hK.len (fun g hg => closed0_cell ((hO.2.1 x).2 g hg)) hK.one hK.rep
theorem param_one {α H : Type} {P : Program} {T : TypeId} {R : α → List G} {g : α → G} {F : α → Prop} {enc : TypeId × Value → H} {w : World} {spare : Nat → Bool} {held : Bool} {v : Value} {d : DataW H} {p : List MemPlace}
    (hO : Opens P T R 1 F) (hR : ∀ x, R x = [g x]) (hc : v.cells = #[v]) (h : DataW.Trod enc P w 0 spare held T v d p) (hn : ∀ n ∈ d.weights P T, n ≤ reachBytes) :
    ∃ x, Rep C0 w (g x) v ∧ F x := by
  obtain ⟨fuel, hf⟩ := h
  rw [hc] at hf
  obtain ⟨x, hK, hF⟩ := hO.2.2 H enc w spare held fuel _ d p hf hn
  exact ⟨x, hK.rep 0 _ _ (by rw [hR]; rfl) rfl, hF⟩
theorem param_slice {α H : Type} {P : Program} {T e : TypeId} {R : α → List G} {g : α → G} {F : α → Prop} {enc : TypeId × Value → H} {w : World} {r : Reach} {b : Nat} {spare : Nat → Bool} {held : Bool} {v : Value} {d : DataW H} {p : List MemPlace}
    (hu : P.underlying T = some (.slice e)) (hO : Opens P T R 1 F) (hR : ∀ x, R x = [g x]) (hv : Value.okWide P w r b T v) (h : DataW.Trod enc P w 0 spare held T v d p) (hn : ∀ n ∈ d.weights P T, n ≤ reachBytes) :
    ∃ x, Rep C0 w (g x) v ∧ F x := by
  obtain ⟨a, len, cap, rfl⟩ := okWide_slice hu hv
  exact param_one hO hR rfl h hn
theorem param_int {α H : Type} {P : Program} {T : TypeId} {ik : IntKind} {R : α → List G} {g : α → G} {F : α → Prop} {enc : TypeId × Value → H} {w : World} {r : Reach} {b : Nat} {spare : Nat → Bool} {held : Bool} {v : Value} {d : DataW H} {p : List MemPlace}
    (hu : P.underlying T = some (.int ik)) (hO : Opens P T R 1 F) (hR : ∀ x, R x = [g x]) (hv : Value.okWide P w r b T v) (h : DataW.Trod enc P w 0 spare held T v d p) (hn : ∀ n ∈ d.weights P T, n ≤ reachBytes) :
    ∃ x, Rep C0 w (g x) v ∧ F x := by
  obtain ⟨m, rfl⟩ := okWide_int hu hv
  exact param_one hO hR rfl h hn
theorem param_bool {α H : Type} {P : Program} {T : TypeId} {R : α → List G} {g : α → G} {F : α → Prop} {enc : TypeId × Value → H} {w : World} {r : Reach} {b : Nat} {spare : Nat → Bool} {held : Bool} {v : Value} {d : DataW H} {p : List MemPlace}
    (hu : P.underlying T = some .bool) (hO : Opens P T R 1 F) (hR : ∀ x, R x = [g x]) (hv : Value.okWide P w r b T v) (h : DataW.Trod enc P w 0 spare held T v d p) (hn : ∀ n ∈ d.weights P T, n ≤ reachBytes) :
    ∃ x, Rep C0 w (g x) v ∧ F x := by
  obtain ⟨m, rfl⟩ := okWide_bool hu hv
  exact param_one hO hR rfl h hn
theorem param_string {α H : Type} {P : Program} {T : TypeId} {R : α → List G} {g : α → G} {F : α → Prop} {enc : TypeId × Value → H} {w : World} {r : Reach} {b : Nat} {spare : Nat → Bool} {held : Bool} {v : Value} {d : DataW H} {p : List MemPlace}
    (hu : P.underlying T = some .string) (hO : Opens P T R 1 F) (hR : ∀ x, R x = [g x]) (hv : Value.okWide P w r b T v) (h : DataW.Trod enc P w 0 spare held T v d p) (hn : ∀ n ∈ d.weights P T, n ≤ reachBytes) :
    ∃ x, Rep C0 w (g x) v ∧ F x := by
  obtain ⟨m, rfl⟩ := okWide_string hu hv
  exact param_one hO hR rfl h hn
/-- A parameter's weights, out of all. -/
theorem param_weights {H : Type} {P : Program} {ts : List TypeId} {ds : List (DataW H)} (h : (DataW.weightsEach P ts ds).all (· ≤ reachBytes) = true) {j : Nat} {t : TypeId} {d : DataW H} (ht : ts[j]? = some t) (hd : ds[j]? = some d) : ∀ n ∈ d.weights P t, n ≤ reachBytes :=
  fun n hn => by simpa using List.all_eq_true.1 h n (DataW.weights_mem_each ht hd n hn)

/-- A call of a law, by what its arguments read as. -/
theorem Fv.calls {P : Program} {f : FuncId} {gs : List G} {b : Bool} (h : Fv P f gs (.bool b)) {w : World} (hfx : Fixed w C0.ex) {vs : List Value} (hl : vs.length = gs.length) (hr : ∀ (i : Nat) g v, gs[i]? = some g → vs[i]? = some v → Rep C0 w g v) :
    Calls P f ⟨vs⟩ w fun e w' => e = .returned (.bool b) ∧ Below w.heap.size w w' := by
  refine (h.2 C0 w (fun _ => False) vs hl hr (mem0 w _ (fun B h => h.elim)) (fun B h => h.elim) (fun b B h => by cases h) (fun k B s sz n h => by cases h) hfx).mono fun e w' ⟨v, C', g, bs, rs, he, hR, hv, hM, hE⟩ => ?_
  obtain ⟨rfl, _, _⟩ := hR
  cases hv
  exact ⟨he, ⟨hE.fr.os, hE.fr.tape, hE.fr.output, hE.fr.size, fun B hB => hE.fr.block B hB (fun h => h)⟩⟩
end Go.Proofs.YtfacmphjplablaaDoor.Av
