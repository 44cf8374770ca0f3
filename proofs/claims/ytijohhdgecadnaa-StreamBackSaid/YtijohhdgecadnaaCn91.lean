/- Contract: stream.Packs (a builder in a loop). No condition but sizes. -/
import Derived.Test.YtijohhdgecadnaaSp1
import Derived.Test.YtijohhdgecadnaaProg
import Derived.KernelRfl
import Derived.Test.YtijohhdgecadnaaCn34
import Derived.Test.YtijohhdgecadnaaCn90
import Derived.Test.YtijohhdgecadnaaAv16
namespace Go.Proofs.Ytijohhdgecadnaa.Cn
open Go Go.Proofs Go.Proofs.Ytijohhdgecadnaa.Av Go.Proofs.Ytijohhdgecadnaa.Sp
set_option linter.unusedVariables false
set_option linter.unusedSimpArgs false
set_option maxRecDepth 100000
attribute [local irreducible] Fv Fp

/-- The frames of messages, joined. -/
def _root_.Go.Proofs.Ytijohhdgecadnaa.Sp.packsL (l : List Msg) : List UInt8 := l.flatMap fun m => (packB m).data.toList
theorem packsL_take {l : List Msg} {k : Nat} (hk : k < l.length) : packsL (l.take (k + 1)) = packsL (l.take k) ++ (packB l[k]).data.toList := by
  unfold packsL; rw [List.take_add_one, List.getElem?_eq_getElem hk, List.flatMap_append]; simp
theorem packsL_len {l : List Msg} {k : Nat} (hk : k < l.length) : (packsL (l.take k)).length + (packB l[k]).size ≤ (packsL l).length := by
  have e : packsL l = packsL (l.take (k + 1)) ++ packsL (l.drop (k + 1)) := by unfold packsL; rw [← List.flatMap_append, List.take_append_drop]
  rw [e, packsL_take hk]; simp only [List.length_append]; rw [size_list]; omega
set_option maxHeartbeats 4000000 in
theorem st_Packs (l : List Msg) (h : (packsL l).length ≤ 1000000000) (hl : l.length < 4611686018427387904) : Fv Try.prog 41 [.sl (l.map Msg.g)] (.str (strL (packsL l))) := by
  refine Fv.of_awp Try.func41 rfl (by kernel_rfl) rfl (Nat.le_of_ble_eq_true rfl) ?_
  repeat' (conv => whnf
           first
           | (refine And.intro (by kernel_rfl) ?_)
           | (refine And.intro ⟨by kernel_rfl, by kernel_rfl⟩ ?_)
           | (refine cond_f ?_ ?_)
           | (refine ⟨_, ⟨by decide, rfl⟩, ?_⟩)
           | (refine cond_i (fun h => ?_) (fun h => ?_)))
  all_goals (conv => whnf)
  refine Has.each [3, 6, 7, 8] [5] l.length (fun k (b : Bool × Nat) => b.2 = k ∧ (b.1 = false → k = 0)) (fun b i =>
    Bool.rec (motive := fun _ => St) (St.of 17 [(3, .ptrt 3 91 2), (6, .sl (l.map Msg.g)), (7, .int .i64 (l.map Msg.g).length), (8, .int .i64 i)] [(3, bldZ)] [])
     (St.of 17 [(3, .ptrt 3 91 2), (6, .sl (l.map Msg.g)), (7, .int .i64 (l.map Msg.g).length), (8, .int .i64 i)] [(3, [.ptrt 3 91 2, .ownt 14 (bldR (packsL (l.take b.2))).length 5])] [(14, bldR (packsL (l.take b.2)))]) b.1) ⟨(false, 0), 0, rfl, ⟨rfl, fun _ => rfl⟩, rfl⟩ (fun k b hk hI => ?_) (fun b hI => ?_)
  · obtain ⟨b, j⟩ := b
    obtain ⟨rfl, hI⟩ := hI
    simp only at *
    have f1 := row_at (R := Msg.g) hk
    have n1 := st_Pack l[j]
    have hs := packsL_len hk
    cases b with
    | false =>
      obtain rfl : j = 0 := hI rfl
      have n2 := bld_WriteString0 (packB l[0]) (by omega)
      refine awp_go ?_
      repeat' (conv => whnf
               first
               | (refine And.intro (by kernel_rfl) ?_)
               | (refine And.intro ⟨by kernel_rfl, by kernel_rfl⟩ ?_)
               | (refine cond_1 (lt_at hk) ?_)
               | (refine ⟨_, f1, ?_⟩)
               | (refine Or.inl ⟨_, n1, ?_⟩)
               | (refine ⟨_, n1, ?_⟩)
               | (refine Or.inr ⟨_, n2, ?_⟩)
               | (refine cond_f ?_ ?_)
               | (refine ⟨_, ⟨by decide, rfl⟩, ?_⟩)
               | (refine cond_i (fun h => ?_) (fun h => ?_)))
      all_goals (conv => whnf)
      refine ⟨(true, 1), _, ?_, ⟨rfl, fun h => nomatch h⟩, wrap_i64 (by omega)⟩
      rw [show packsL (l.take 1) = (packB l[0]).data.toList from by rw [packsL_take hk]; rfl]
      rfl
    | true =>
      have n2 := bld_WriteString1 (packsL (l.take j)) (packB l[j]) (by omega)
      rw [← packsL_take hk] at n2
      refine awp_go ?_
      repeat' (conv => whnf
               first
               | (refine And.intro (by kernel_rfl) ?_)
               | (refine And.intro ⟨by kernel_rfl, by kernel_rfl⟩ ?_)
               | (refine cond_1 (lt_at hk) ?_)
               | (refine ⟨_, f1, ?_⟩)
               | (refine Or.inl ⟨_, n1, ?_⟩)
               | (refine ⟨_, n1, ?_⟩)
               | (refine Or.inr ⟨_, n2, ?_⟩)
               | (refine cond_f ?_ ?_)
               | (refine ⟨_, ⟨by decide, rfl⟩, ?_⟩)
               | (refine cond_i (fun h => ?_) (fun h => ?_)))
      all_goals (conv => whnf)
      exact ⟨(true, j + 1), _, rfl, ⟨rfl, fun h => nomatch h⟩, wrap_i64 (by omega)⟩
  · obtain ⟨b, j⟩ := b
    obtain ⟨hj, hI⟩ := hI
    simp only at *
    subst hj
    cases b with
    | false =>
      have h0 := hI rfl
      obtain rfl : l = [] := List.length_eq_zero_iff.1 h0
      refine awp_go ?_
      repeat' (conv => whnf
               first
               | (refine And.intro (by kernel_rfl) ?_)
               | (refine And.intro ⟨by kernel_rfl, by kernel_rfl⟩ ?_)
               | (refine cond_0 lt_end ?_)
               | (refine Or.inr ⟨_, bld_String0, ?_⟩)
               | (refine cond_f ?_ ?_)
               | (refine ⟨_, ⟨by decide, rfl⟩, ?_⟩)
               | (refine cond_i (fun h => ?_) (fun h => ?_)))
      all_goals (conv => whnf)
      all_goals rfl
    | true =>
      have n2 := bld_String1 (packsL (l.take l.length)) (by rw [List.take_length]; exact h)
      rw [List.take_length] at n2
      refine awp_go ?_
      rw [List.take_length]
      repeat' (conv => whnf
               first
               | (refine And.intro (by kernel_rfl) ?_)
               | (refine And.intro ⟨by kernel_rfl, by kernel_rfl⟩ ?_)
               | (refine cond_0 lt_end ?_)
               | (refine Or.inr ⟨_, n2, ?_⟩)
               | (refine cond_f ?_ ?_)
               | (refine ⟨_, ⟨by decide, rfl⟩, ?_⟩)
               | (refine cond_i (fun h => ?_) (fun h => ?_)))
      all_goals (conv => whnf)
      all_goals rfl
end Go.Proofs.Ytijohhdgecadnaa.Cn
