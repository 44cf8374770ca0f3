
/- Contracts: whether a packet may be, the document's. No condition. -/
import Derived.Test.YtfpincfmcjiokaaCn78
namespace Go.Proofs.Ytfpincfmcjiokaa.Cn
open Go Go.Proofs Go.Proofs.Ytfpincfmcjiokaa.Av Go.Proofs.Ytfpincfmcjiokaa.Sp
set_option linter.unusedVariables false
set_option linter.unusedSimpArgs false
set_option linter.unusedSectionVars false
set_option maxRecDepth 100000
attribute [local irreducible] Fv Fp

set_option maxHeartbeats 4000000 in
theorem rright_of (p q : Packet) (k v s t d r a : Bool) (x e : Int) (n1 : Fv Try.prog 16 [.agg p.key.g] (.bool k)) (n2 : Fv Try.prog 10 [.agg p.g] (.agg q.g))
    (n3 : Fv Try.prog 17 [.str p.timeout] (.tup [.int .i64 x, .int .i64 e])) (n4 : Fv Try.prog 18 [.int .i64 p.stamp] (.bool s)) (n5 : Fv Try.prog 18 [.int .i64 p.until] (.bool t))
    (n6 : Fv Try.prog 18 [.int .i64 p.delay] (.bool d)) (n7 : Fv Try.prog 19 [.agg p.root.g] (.bool r)) (n8 : Fv Try.prog 16 [.agg p.parent.g] (.bool a))
    (n9 : Fv Try.prog 20 [.int .i64 p.code] (.bool v)) :
    Fv Try.prog 7 [.agg p.g] (.bool (decide (0 ≤ p.from ∧ p.from < 64) && decide (0 ≤ p.to ∧ p.to < 64) && (k && decide (1 ≤ p.key.att)) && decide (q = p) && (if p.kind = 1 then decide (e = 0 ∧ 1 ≤ p.hop ∧ p.hop ≤ 16 ∧ 0 ≤ p.program ∧ p.program < 16) && s && t && r && a
      else if p.kind = 2 then v && decide (0 ≤ p.value ∧ p.value < 2147483648 ∧ (p.more = true → p.code = 0 ∧ p.value = 0))
      else if p.kind = 3 then true else if p.kind = 4 then t else if p.kind = 5 then (decide (p.delay = -1) || d) else false))) := by
  refine Fv.of_awp Try.func7 rfl (by kernel_rfl) rfl (Nat.le_of_ble_eq_true rfl) ?_
  have no : (decide (0 ≤ p.from ∧ p.from < 64) && decide (0 ≤ p.to ∧ p.to < 64) && (k && decide (1 ≤ p.key.att)) && decide (q = p)) = false → ∀ b : Bool, G.bool false = G.bool (decide (0 ≤ p.from ∧ p.from < 64) && decide (0 ≤ p.to ∧ p.to < 64) && (k && decide (1 ≤ p.key.att)) && decide (q = p) && b) := fun h b => by rw [h]; rfl
  by_cases h1 : p.from < 0
  · have b1 : decide (p.from < 0) = true := decide_eq_true h1
    repeat' (conv => whnf
             first
             | (refine And.intro (by kernel_rfl) ?_)
             | (refine And.intro ⟨by kernel_rfl, by kernel_rfl⟩ ?_)
             | (refine cond_1 b1 ?_)
             | (refine cond_f ?_ ?_)
             | (refine ⟨_, ⟨by decide, rfl⟩, ?_⟩)
             | (refine cond_i (fun h => ?_) (fun h => ?_)))
    all_goals (conv => whnf)
    all_goals exact no (by rw [decide_eq_false (by omega)]; rfl) _
  have b1 : decide (p.from < 0) = false := decide_eq_false h1
  by_cases h2 : p.from > 63
  · have b2 : decide (p.from > 63) = true := decide_eq_true h2
    repeat' (conv => whnf
             first
             | (refine And.intro (by kernel_rfl) ?_)
             | (refine And.intro ⟨by kernel_rfl, by kernel_rfl⟩ ?_)
             | (refine cond_0 b1 ?_)
             | (refine cond_1 b2 ?_)
             | (refine cond_f ?_ ?_)
             | (refine ⟨_, ⟨by decide, rfl⟩, ?_⟩)
             | (refine cond_i (fun h => ?_) (fun h => ?_)))
    all_goals (conv => whnf)
    all_goals exact no (by rw [decide_eq_false (by omega)]; rfl) _
  have b2 : decide (p.from > 63) = false := decide_eq_false h2
  by_cases h3 : p.to < 0
  · have b3 : decide (p.to < 0) = true := decide_eq_true h3
    repeat' (conv => whnf
             first
             | (refine And.intro (by kernel_rfl) ?_)
             | (refine And.intro ⟨by kernel_rfl, by kernel_rfl⟩ ?_)
             | (refine cond_0 b1 ?_)
             | (refine cond_0 b2 ?_)
             | (refine cond_1 b3 ?_)
             | (refine cond_f ?_ ?_)
             | (refine ⟨_, ⟨by decide, rfl⟩, ?_⟩)
             | (refine cond_i (fun h => ?_) (fun h => ?_)))
    all_goals (conv => whnf)
    all_goals exact no (by rw [decide_eq_false (p := 0 ≤ p.to ∧ _) (by omega)]; simp) _
  have b3 : decide (p.to < 0) = false := decide_eq_false h3
  by_cases h4 : p.to > 63
  · have b4 : decide (p.to > 63) = true := decide_eq_true h4
    repeat' (conv => whnf
             first
             | (refine And.intro (by kernel_rfl) ?_)
             | (refine And.intro ⟨by kernel_rfl, by kernel_rfl⟩ ?_)
             | (refine cond_0 b1 ?_)
             | (refine cond_0 b2 ?_)
             | (refine cond_0 b3 ?_)
             | (refine cond_1 b4 ?_)
             | (refine cond_f ?_ ?_)
             | (refine ⟨_, ⟨by decide, rfl⟩, ?_⟩)
             | (refine cond_i (fun h => ?_) (fun h => ?_)))
    all_goals (conv => whnf)
    all_goals exact no (by rw [decide_eq_false (p := 0 ≤ p.to ∧ _) (by omega)]; simp) _
  have b4 : decide (p.to > 63) = false := decide_eq_false h4
  cases k
  · skip
    repeat' (conv => whnf
             first
             | (refine And.intro (by kernel_rfl) ?_)
             | (refine And.intro ⟨by kernel_rfl, by kernel_rfl⟩ ?_)
             | (refine cond_0 b1 ?_)
             | (refine cond_0 b2 ?_)
             | (refine cond_0 b3 ?_)
             | (refine cond_0 b4 ?_)
             | (refine Or.inl ⟨_, n1, ?_⟩)
             | (refine ⟨_, n1, ?_⟩)
             | (refine cond_f ?_ ?_)
             | (refine ⟨_, ⟨by decide, rfl⟩, ?_⟩)
             | (refine cond_i (fun h => ?_) (fun h => ?_)))
    all_goals (conv => whnf)
    all_goals exact no (by simp) _
  by_cases h5 : p.key.att < 1
  · have b5 : decide (p.key.att < 1) = true := decide_eq_true h5
    repeat' (conv => whnf
             first
             | (refine And.intro (by kernel_rfl) ?_)
             | (refine And.intro ⟨by kernel_rfl, by kernel_rfl⟩ ?_)
             | (refine cond_0 b1 ?_)
             | (refine cond_0 b2 ?_)
             | (refine cond_0 b3 ?_)
             | (refine cond_0 b4 ?_)
             | (refine Or.inl ⟨_, n1, ?_⟩)
             | (refine ⟨_, n1, ?_⟩)
             | (refine cond_1 b5 ?_)
             | (refine cond_f ?_ ?_)
             | (refine ⟨_, ⟨by decide, rfl⟩, ?_⟩)
             | (refine cond_i (fun h => ?_) (fun h => ?_)))
    all_goals (conv => whnf)
    all_goals exact no (by rw [decide_eq_false (p := 1 ≤ p.key.att) (by omega)]; simp) _
  have b5 : decide (p.key.att < 1) = false := decide_eq_false h5
  have hq := packet_eqB q p
  by_cases e : q = p
  · rw [decide_eq_true e] at hq
    rw [decide_eq_true e, decide_eq_true (p := 0 ≤ p.from ∧ _) (by omega), decide_eq_true (p := 0 ≤ p.to ∧ _) (by omega), decide_eq_true (p := 1 ≤ p.key.att) (by omega)]
    simp only [Bool.true_and]
    repeat' (conv => whnf
             first
             | (refine And.intro (by kernel_rfl) ?_)
             | (refine And.intro ⟨by kernel_rfl, by kernel_rfl⟩ ?_)
             | (refine cond_0 b1 ?_)
             | (refine cond_0 b2 ?_)
             | (refine cond_0 b3 ?_)
             | (refine cond_0 b4 ?_)
             | (refine Or.inl ⟨_, n1, ?_⟩)
             | (refine ⟨_, n1, ?_⟩)
             | (refine cond_0 b5 ?_)
             | (refine Or.inl ⟨_, n2, ?_⟩)
             | (refine ⟨_, n2, ?_⟩)
             | (rw [hq])
             | (refine Or.inl ⟨_, n3, ?_⟩)
             | (refine ⟨_, n3, ?_⟩)
             | (refine Or.inl ⟨_, n4, ?_⟩)
             | (refine ⟨_, n4, ?_⟩)
             | (refine Or.inl ⟨_, n5, ?_⟩)
             | (refine ⟨_, n5, ?_⟩)
             | (refine Or.inl ⟨_, n6, ?_⟩)
             | (refine ⟨_, n6, ?_⟩)
             | (refine Or.inl ⟨_, n7, ?_⟩)
             | (refine ⟨_, n7, ?_⟩)
             | (refine Or.inl ⟨_, n8, ?_⟩)
             | (refine ⟨_, n8, ?_⟩)
             | (refine Or.inl ⟨_, n9, ?_⟩)
             | (refine ⟨_, n9, ?_⟩)
             | (refine cond_f ?_ ?_)
             | (refine ⟨_, ⟨by decide, rfl⟩, ?_⟩)
             | (refine cond_i (fun h => ?_) (fun h => ?_)))
    all_goals (conv => whnf)
    all_goals
      clear hq n1 n2 n3 n4 n5 n6 n7 n8 n9 e no b1 b2 b3 b4 b5 h1 h2 h3 h4 h5
      refine bool_eq ?_
      simp only [beq_iff_eq, beq_eq_false_iff_ne, bne_iff_ne, bne_eq_false_iff_eq, ne_eq, decide_eq_true_eq, decide_eq_false_iff_not, Bool.not_eq_true', Bool.not_eq_false', ge_iff_le, gt_iff_lt, Int.not_lt] at *
      simp only [*, if_true, if_false, Bool.true_and, Bool.false_and, Bool.and_true, Bool.and_false]
    all_goals try rfl
    all_goals
      first
        | (rw [decide_eq_false (by omega)]; rfl)
        | (rw [decide_eq_true (by omega)]; simp; done)
        | (rw [Bool.eq_iff_iff]; simp [*]; done)
        | (rw [Bool.eq_iff_iff]; simp [*]; omega)
  · rw [decide_eq_false e] at hq
    repeat' (conv => whnf
             first
             | (refine And.intro (by kernel_rfl) ?_)
             | (refine And.intro ⟨by kernel_rfl, by kernel_rfl⟩ ?_)
             | (refine cond_0 b1 ?_)
             | (refine cond_0 b2 ?_)
             | (refine cond_0 b3 ?_)
             | (refine cond_0 b4 ?_)
             | (refine Or.inl ⟨_, n1, ?_⟩)
             | (refine ⟨_, n1, ?_⟩)
             | (refine cond_0 b5 ?_)
             | (refine Or.inl ⟨_, n2, ?_⟩)
             | (refine ⟨_, n2, ?_⟩)
             | (rw [hq])
             | (refine cond_f ?_ ?_)
             | (refine ⟨_, ⟨by decide, rfl⟩, ?_⟩)
             | (refine cond_i (fun h => ?_) (fun h => ?_)))
    all_goals (conv => whnf)
    all_goals exact no (by rw [decide_eq_false e]; simp) _
theorem ref08_Right (p : Packet) : Fv Try.prog 7 [.agg p.g] (.bool (okP p)) := by
  have := rright_of p (cleanP p) _ _ _ _ _ _ _ _ _ (ref07_Key _) (ref08_Clean p) (ref02_Decode _) (ref08_time _) (ref08_time _) (ref08_time _) (ref07_Right _) (ref07_Key _) (ref05_Right _)
  have e : okP p = (decide (0 ≤ p.from ∧ p.from < 64) && decide (0 ≤ p.to ∧ p.to < 64) && (okKey p.key && decide (1 ≤ p.key.att)) && decide (cleanP p = p) && (if p.kind = 1 then decide ((dec p.timeout).2 = 0 ∧ 1 ≤ p.hop ∧ p.hop ≤ 16 ∧ 0 ≤ p.program ∧ p.program < 16) && tickI p.stamp && tickI p.until && okId p.root && okKey p.parent
      else if p.kind = 2 then right p.code && decide (0 ≤ p.value ∧ p.value < 2147483648 ∧ (p.more = true → p.code = 0 ∧ p.value = 0))
      else if p.kind = 3 then true else if p.kind = 4 then tickI p.until else if p.kind = 5 then (decide (p.delay = -1) || tickI p.delay) else false)) := by
    unfold okP okHead okKind
    have ed : (decide (p.delay = -1) || tickI p.delay) = decide (-1 ≤ p.delay ∧ p.delay ≤ 1125899906842624) := by
      rw [Bool.eq_iff_iff, Bool.or_eq_true, tickI_iff, decide_eq_true_eq, decide_eq_true_eq]; omega
    rw [ed]
    congr 1
    rw [Bool.eq_iff_iff]
    simp only [Bool.and_eq_true, decide_eq_true_eq, and_assoc]
  rw [e]
  exact this
end Go.Proofs.Ytfpincfmcjiokaa.Cn
