/- Law 38: packed and fed, the same messages: the law. No condition but sizes. -/
import Derived.Test.YtijohhdgecadnaaSp1
import Derived.Test.YtijohhdgecadnaaCn0
import Derived.Test.YtijohhdgecadnaaProg
import Derived.KernelRfl
import Derived.Test.YtijohhdgecadnaaCn92
import Derived.Test.YtijohhdgecadnaaAv16
namespace Go.Proofs.Ytijohhdgecadnaa.Cn
open Go Go.Proofs Go.Proofs.Ytijohhdgecadnaa.Av Go.Proofs.Ytijohhdgecadnaa.Sp
set_option linter.unusedVariables false
set_option linter.unusedSimpArgs false
set_option maxRecDepth 100000
attribute [local irreducible] Fv Fp

theorem packs_str {l : List Msg} {k : Nat} (hk : k < l.length) : strL (packsL (l.take (k + 1))) = strL (packsL (l.take k)) ++ packB l[k] := by
  rw [packsL_take hk]; apply ext_list; rw [app_list]; rfl
set_option maxHeartbeats 16000000 in
theorem law38_StreamBack (l : List Msg) (t : ByteArray) (ht : t.size < 4611686018427387904) : Fv Try.prog 10 [.sl (l.map Msg.g), .str t] (.bool true) := by
  have aw := law38_awake
  refine Fv.of_awp Try.func10 rfl (by kernel_rfl) rfl (Nat.le_of_ble_eq_true rfl) ?_
  by_cases hl : l.length > 20
  · have b1 : decide (((l.map Msg.g).length : Int) > 20) = true := decide_eq_true (by rw [List.length_map]; omega)
    repeat' (conv => whnf
             first
             | (refine And.intro (by kernel_rfl) ?_)
             | (refine And.intro ⟨by kernel_rfl, by kernel_rfl⟩ ?_)
             | (refine cond_1 b1 ?_)
             | (refine Or.inl ⟨_, aw, ?_⟩)
             | (refine ⟨_, aw, ?_⟩)
             | (refine cond_f ?_ ?_)
             | (refine ⟨_, ⟨by decide, rfl⟩, ?_⟩)
             | (refine cond_i (fun h => ?_) (fun h => ?_)))
    all_goals (conv => whnf)
    all_goals rfl
  have b1 : decide (((l.map Msg.g).length : Int) > 20) = false := decide_eq_false (by rw [List.length_map]; omega)
  repeat' (conv => whnf
           first
           | (refine And.intro (by kernel_rfl) ?_)
           | (refine And.intro ⟨by kernel_rfl, by kernel_rfl⟩ ?_)
           | (refine cond_0 b1 ?_)
           | (refine cond_f ?_ ?_)
           | (refine ⟨_, ⟨by decide, rfl⟩, ?_⟩)
           | (refine cond_i (fun h => ?_) (fun h => ?_)))
  all_goals (conv => whnf)
  refine Has.own0 6 55 rfl rfl ?_
  refine Has.each [0, 1, 5, 6, 7, 8] [9] l.length (fun k (b : Nat) => b = k ∧ okS 200 false (l.take k)) (fun b i =>
    St.of 132 [(0, .sl (l.map Msg.g)), (1, .str t), (5, .str (strL (packsL (l.take b)))), (6, .own 55 0 b), (7, .bool (lastOf (l.take b) false)), (8, .int .i64 i)] [] [(55, (l.take b).map Msg.g)]) ⟨0, 0, rfl, ⟨rfl, trivial⟩, rfl⟩ (fun k b hk hI => ?_) (fun b hI => ?_)
  · obtain ⟨rfl, hI⟩ := hI
    have f1 := row_at (R := Msg.g) hk
    have wk := up1 hk (show l.length < 4611686018427387904 by omega)
    have n1 := st_Pack l[b]
    have n2 := ref38_Pack l[b]
    by_cases h1 : l[b].S.size > 200
    · have c1 : decide ((l[b].S.size : Int) > 200) = true := decide_eq_true (by omega)
      refine awp_go ?_
      repeat' (conv => whnf
               first
               | (refine And.intro (by kernel_rfl) ?_)
               | (refine And.intro ⟨by kernel_rfl, by kernel_rfl⟩ ?_)
               | (refine cond_1 (lt_at hk) ?_)
               | (refine ⟨_, f1, ?_⟩)
               | (refine cond_1 c1 ?_)
               | (refine Or.inl ⟨_, aw, ?_⟩)
               | (refine ⟨_, aw, ?_⟩)
               | (refine cond_f ?_ ?_)
               | (refine ⟨_, ⟨by decide, rfl⟩, ?_⟩)
               | (refine cond_i (fun h => ?_) (fun h => ?_)))
      all_goals (conv => whnf)
      all_goals rfl
    have c1 : decide ((l[b].S.size : Int) > 200) = false := decide_eq_false (by omega)
    by_cases h2 : lastOf (l.take b) false = true
    · refine awp_go ?_
      repeat' (conv => whnf
               first
               | (refine And.intro (by kernel_rfl) ?_)
               | (refine And.intro ⟨by kernel_rfl, by kernel_rfl⟩ ?_)
               | (refine cond_1 (lt_at hk) ?_)
               | (refine ⟨_, f1, ?_⟩)
               | (refine cond_0 c1 ?_)
               | (refine cond_1 h2 ?_)
               | (refine Or.inl ⟨_, aw, ?_⟩)
               | (refine ⟨_, aw, ?_⟩)
               | (refine cond_f ?_ ?_)
               | (refine ⟨_, ⟨by decide, rfl⟩, ?_⟩)
               | (refine cond_i (fun h => ?_) (fun h => ?_)))
      all_goals (conv => whnf)
      all_goals rfl
    have h2 : lastOf (l.take b) false = false := by simpa using h2
    have hz : (((strL (packsL (l.take b))).size + (packB l[b]).size : Nat) : Int) ≤ 9223372036854775807 := by
      have := packs_size _ _ hI
      rw [strL_size, packB_size _ (by omega)]
      simp only [List.length_take] at this
      omega
    have e1 : (!(strEq (packB l[b]) (packB l[b]))) = false := by rw [strEq_self]; rfl
    refine awp_go ?_
    repeat' (conv => whnf
             first
             | (refine And.intro (by kernel_rfl) ?_)
             | (refine And.intro ⟨by kernel_rfl, by kernel_rfl⟩ ?_)
             | (refine cond_1 (lt_at hk) ?_)
             | (refine ⟨_, f1, ?_⟩)
             | (refine cond_0 c1 ?_)
             | (refine cond_0 h2 ?_)
             | (refine ⟨_, f1, ?_⟩)
             | (refine ⟨app_at 2 24 (Nat.le_of_lt hk) (by kernel_rfl) (by kernel_rfl) (fun _ => rfl) (by omega), ?_⟩)
             | (refine Or.inl ⟨_, n1, ?_⟩)
             | (refine ⟨_, n1, ?_⟩)
             | (refine Or.inl ⟨_, n2, ?_⟩)
             | (refine ⟨_, n2, ?_⟩)
             | (refine cond_0 e1 ?_)
             | (refine ⟨_, f1, ?_⟩)
             | (refine ⟨hz, ?_⟩)
             | (refine cond_f ?_ ?_)
             | (refine ⟨_, ⟨by decide, rfl⟩, ?_⟩)
             | (refine cond_i (fun h => ?_) (fun h => ?_)))
    all_goals (conv => whnf)
    refine ⟨b + 1, _, ?_, ⟨rfl, ?_⟩, wk⟩
    · rw [packs_str hk, lastOf_take hk, ← own_app (R := Msg.g) hk]
      rfl
    · rw [List.take_succ_eq_append_getElem hk]
      exact okS_snoc _ _ hI h2 (by omega)
  · obtain ⟨rfl, hI⟩ := hI
    rw [List.take_length] at hI
    simp only [List.take_length]
    have hp := packs_size _ _ hI
    have n0 := st_New
    have n1 := st_Packs l (by omega) (by omega)
    have hrun := runM_packs l false (okS_mono (by omega) _ _ hI)
    have hf : feedM ⟨emptyB, false, 0⟩ (strL (packsL l)) = (l, ⟨emptyB, lastOf l false, 0⟩) := by unfold feedM; simp only [empty_app]; exact hrun
    have n2 := st_Feed ⟨emptyB, false, 0⟩ (strL (packsL l)) rfl (by show 0 + _ < _; rw [strL_size]; omega) (by rw [hf]; simp only; omega)
    rw [hf] at n2
    simp only at n2
    have n3 := law38_like [] l (by simp only [List.nil_append]; omega)
    have n4 := st_Left ⟨emptyB, lastOf l false, 0⟩
    have n5 := st_Over ⟨emptyB, lastOf l false, 0⟩
    simp only at n4 n5
    have e1 : (!(strEq (strL (packsL l)) (strL (packsL l)))) = false := by rw [strEq_self]; rfl
    generalize hla : lastOf l false = la at *
    cases la with
    | false =>
      refine awp_go ?_
      repeat' (conv => whnf
               first
               | (refine And.intro (by kernel_rfl) ?_)
               | (refine And.intro ⟨by kernel_rfl, by kernel_rfl⟩ ?_)
               | (refine cond_0 lt_end ?_)
               | (refine Or.inr ⟨_, n0, ?_⟩)
               | (refine Or.inl ⟨_, n1, ?_⟩)
               | (refine ⟨_, n1, ?_⟩)
               | (refine ⟨own_le1, ?_⟩)
               | (rw [own_all1])
               | (refine Or.inr ⟨_, n2, ?_⟩)
               | (refine cond_0 e1 ?_)
               | (refine Or.inl ⟨_, n3, ?_⟩)
               | (refine ⟨_, n3, ?_⟩)
               | (refine Or.inr ⟨_, n4, ?_⟩)
               | (refine Or.inr ⟨_, n5, ?_⟩)
               | (refine Or.inl ⟨_, aw, ?_⟩)
               | (refine ⟨_, aw, ?_⟩)
               | (refine Or.inl ?_)
               | (refine cond_f ?_ ?_)
               | (refine ⟨_, ⟨by decide, rfl⟩, ?_⟩)
               | (refine cond_i (fun h => ?_) (fun h => ?_)))
      all_goals (conv => whnf)
      all_goals rfl
    | true =>
      by_cases h0 : t.size = 0
      · have e3 : strEq t ⟨#[]⟩ = true := by rw [strEq_nil]; exact decide_eq_true h0
        refine awp_go ?_
        repeat' (conv => whnf
                 first
                 | (refine And.intro (by kernel_rfl) ?_)
                 | (refine And.intro ⟨by kernel_rfl, by kernel_rfl⟩ ?_)
                 | (refine cond_0 lt_end ?_)
                 | (refine Or.inr ⟨_, n0, ?_⟩)
                 | (refine Or.inl ⟨_, n1, ?_⟩)
                 | (refine ⟨_, n1, ?_⟩)
                 | (refine ⟨own_le1, ?_⟩)
                 | (rw [own_all1])
                 | (refine Or.inr ⟨_, n2, ?_⟩)
                 | (refine cond_0 e1 ?_)
                 | (refine Or.inl ⟨_, n3, ?_⟩)
                 | (refine ⟨_, n3, ?_⟩)
                 | (refine Or.inr ⟨_, n4, ?_⟩)
                 | (refine Or.inr ⟨_, n5, ?_⟩)
                 | (refine cond_1 e3 ?_)
                 | (refine Or.inl ⟨_, aw, ?_⟩)
                 | (refine ⟨_, aw, ?_⟩)
                 | (refine Or.inl ?_)
                 | (refine cond_f ?_ ?_)
                 | (refine ⟨_, ⟨by decide, rfl⟩, ?_⟩)
                 | (refine cond_i (fun h => ?_) (fun h => ?_)))
        all_goals (conv => whnf)
        all_goals rfl
      · have e3 : strEq t ⟨#[]⟩ = false := by rw [strEq_nil]; exact decide_eq_false h0
        have hv := feed_over t h0
        have n6 := st_Feed ⟨emptyB, true, 0⟩ t rfl (by show 0 + _ < _; omega) (by rw [hv]; exact (by decide : (0 : Nat) < 1000000))
        rw [hv] at n6
        have n7 := st_Left ⟨emptyB, true, 6⟩
        refine awp_go ?_
        repeat' (conv => whnf
                 first
                 | (refine And.intro (by kernel_rfl) ?_)
                 | (refine And.intro ⟨by kernel_rfl, by kernel_rfl⟩ ?_)
                 | (refine cond_0 lt_end ?_)
                 | (refine Or.inr ⟨_, n0, ?_⟩)
                 | (refine Or.inl ⟨_, n1, ?_⟩)
                 | (refine ⟨_, n1, ?_⟩)
                 | (refine ⟨own_le1, ?_⟩)
                 | (rw [own_all1])
                 | (refine Or.inr ⟨_, n2, ?_⟩)
                 | (refine cond_0 e1 ?_)
                 | (refine Or.inl ⟨_, n3, ?_⟩)
                 | (refine ⟨_, n3, ?_⟩)
                 | (refine Or.inr ⟨_, n4, ?_⟩)
                 | (refine Or.inr ⟨_, n5, ?_⟩)
                 | (refine cond_0 e3 ?_)
                 | (refine Or.inr ⟨_, n6, ?_⟩)
                 | (refine Or.inr ⟨_, n7, ?_⟩)
                 | (refine Or.inl ⟨_, aw, ?_⟩)
                 | (refine ⟨_, aw, ?_⟩)
                 | (refine Or.inl ?_)
                 | (refine cond_f ?_ ?_)
                 | (refine ⟨_, ⟨by decide, rfl⟩, ?_⟩)
                 | (refine cond_i (fun h => ?_) (fun h => ?_)))
        all_goals (conv => whnf)
        all_goals rfl
end Go.Proofs.Ytijohhdgecadnaa.Cn
