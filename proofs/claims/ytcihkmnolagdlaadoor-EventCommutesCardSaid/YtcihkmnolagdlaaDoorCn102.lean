
/- Contract: events' text, by what a line is (a builder in a loop). No condition but sizes. -/
import Derived.Test.YtcihkmnolagdlaaDoorSp1
import Derived.Test.YtcihkmnolagdlaaDoorProg
import Derived.KernelRfl
import Derived.Test.YtcihkmnolagdlaaDoorSp21
import Derived.Test.YtcihkmnolagdlaaDoorCn90
import Derived.Test.YtcihkmnolagdlaaDoorAv18
namespace Go.Proofs.YtcihkmnolagdlaaDoor.Cn
open Go Go.Proofs Go.Proofs.YtcihkmnolagdlaaDoor.Av Go.Proofs.YtcihkmnolagdlaaDoor.Sp
set_option linter.unusedVariables false
set_option linter.unusedSimpArgs false
set_option linter.unusedSectionVars false
set_option maxRecDepth 100000
attribute [local irreducible] Fv Fp

def textL (line : Ev → ByteArray) (l : List Ev) : List UInt8 := l.flatMap fun e => (line e ++ ⟨#[10]⟩).data.toList
theorem textL_take {line : Ev → ByteArray} {l : List Ev} {k : Nat} (hk : k < l.length) : textL line (l.take (k + 1)) = textL line (l.take k) ++ (line l[k] ++ ⟨#[10]⟩).data.toList := by
  unfold textL; rw [List.take_add_one, List.getElem?_eq_getElem hk, List.flatMap_append]; simp
theorem textL_len {line : Ev → ByteArray} {l : List Ev} {k : Nat} (hk : k < l.length) : (textL line (l.take k)).length + (line l[k] ++ ⟨#[10]⟩).size ≤ (textL line l).length := by
  have e : textL line l = textL line (l.take (k + 1)) ++ textL line (l.drop (k + 1)) := by unfold textL; rw [← List.flatMap_append, List.take_append_drop]
  rw [e, textL_take hk]; simp only [List.length_append]; rw [size_list]; omega
set_option maxHeartbeats 4000000 in
theorem ev_Text (line : Ev → ByteArray) (l : List Ev) (hn : ∀ e ∈ l, Fv Tryd.prog 39 [.agg e.g] (.str (line e))) (h : (textL line l).length ≤ 1000000000) (hl : l.length < 4611686018427387904) : Fv Tryd.prog 14 [.sl (l.map Ev.g)] (.str (strL (textL line l))) := by
  refine Fv.of_awp Tryd.func14 rfl (by kernel_rfl) rfl (Nat.le_of_ble_eq_true rfl) ?_
  repeat' (conv => whnf
           first
           | (refine And.intro (by kernel_rfl) ?_)
           | (refine And.intro ⟨by kernel_rfl, by kernel_rfl⟩ ?_)
           | (refine cond_f ?_ ?_)
           | (refine ⟨_, ⟨by decide, rfl⟩, ?_⟩)
           | (refine cond_i (fun h => ?_) (fun h => ?_)))
  all_goals (conv => whnf)
  refine Has.each [3, 6, 7, 8] [5] l.length (fun k (b : Bool × Nat) => b.2 = k ∧ (b.1 = false → k = 0)) (fun b i =>
    Bool.rec (motive := fun _ => St) (St.of 18 [(3, .ptrt 3 74 2), (6, .sl (l.map Ev.g)), (7, .int .i64 (l.map Ev.g).length), (8, .int .i64 i)] [(3, bldZ)] [])
     (St.of 18 [(3, .ptrt 3 74 2), (6, .sl (l.map Ev.g)), (7, .int .i64 (l.map Ev.g).length), (8, .int .i64 i)] [(3, [.ptrt 3 74 2, .ownt 15 (bldR (textL line (l.take b.2))).length 5])] [(15, bldR (textL line (l.take b.2)))]) b.1) ⟨(false, 0), 0, rfl, ⟨rfl, fun _ => rfl⟩, rfl⟩ (fun k b hk hI => ?_) (fun b hI => ?_)
  · obtain ⟨b, j⟩ := b
    obtain ⟨rfl, hI⟩ := hI
    simp only at *
    have f1 := row_at (R := Ev.g) hk
    have n1 := hn l[j] (List.getElem_mem hk)
    have hs := textL_len (line := line) hk
    have z1 : (((line l[j]).size + (⟨#[10]⟩ : ByteArray).size : Nat) : Int) ≤ 9223372036854775807 := by rw [ByteArray.size_append] at hs; omega
    have hll : (textL line l).length ≤ 1000000000 := h
    cases b with
    | false =>
      obtain rfl : j = 0 := hI rfl
      have n2 := bld_WriteString0 (line l[0] ++ ⟨#[10]⟩) (by omega)
      refine awp_go ?_
      repeat' (conv => whnf
               first
               | (refine And.intro (by kernel_rfl) ?_)
               | (refine And.intro ⟨by kernel_rfl, by kernel_rfl⟩ ?_)
               | (refine cond_1 (lt_at hk) ?_)
               | (refine ⟨_, f1, ?_⟩)
               | (refine Or.inl ⟨_, n1, ?_⟩)
               | (refine ⟨_, n1, ?_⟩)
               | (refine ⟨z1, ?_⟩)
               | (refine Or.inr ⟨_, n2, ?_⟩)
               | (refine cond_f ?_ ?_)
               | (refine ⟨_, ⟨by decide, rfl⟩, ?_⟩)
               | (refine cond_i (fun h => ?_) (fun h => ?_)))
      all_goals (conv => whnf)
      refine ⟨(true, 1), _, ?_, ⟨rfl, fun h => nomatch h⟩, wrap_i64 (by omega)⟩
      rw [show textL line (l.take 1) = (line l[0] ++ ⟨#[10]⟩).data.toList from by rw [textL_take hk]; rfl]
      rfl
    | true =>
      have n2 := bld_WriteString1 (textL line (l.take j)) (line l[j] ++ ⟨#[10]⟩) (by omega)
      rw [← textL_take hk] at n2
      refine awp_go ?_
      repeat' (conv => whnf
               first
               | (refine And.intro (by kernel_rfl) ?_)
               | (refine And.intro ⟨by kernel_rfl, by kernel_rfl⟩ ?_)
               | (refine cond_1 (lt_at hk) ?_)
               | (refine ⟨_, f1, ?_⟩)
               | (refine Or.inl ⟨_, n1, ?_⟩)
               | (refine ⟨_, n1, ?_⟩)
               | (refine ⟨z1, ?_⟩)
               | (refine Or.inr ⟨_, n2, ?_⟩)
               | (refine cond_f ?_ ?_)
               | (refine ⟨_, ⟨by decide, rfl⟩, ?_⟩)
               | (refine cond_i (fun h => ?_) (fun h => ?_)))
      all_goals (conv => whnf)
      exact ⟨(true, j + 1), _, rfl, ⟨rfl, fun h => nomatch h⟩, wrap_i64 (by omega)⟩
  · obtain ⟨b, j⟩ := b
    obtain ⟨hj, hI⟩ := hI
    simp only at *
    subst hj
    cases b with
    | false =>
      have h0 := hI rfl
      obtain rfl : l = [] := List.length_eq_zero_iff.1 h0
      refine awp_go ?_
      repeat' (conv => whnf
               first
               | (refine And.intro (by kernel_rfl) ?_)
               | (refine And.intro ⟨by kernel_rfl, by kernel_rfl⟩ ?_)
               | (refine cond_0 lt_end ?_)
               | (refine Or.inr ⟨_, bld_String0, ?_⟩)
               | (refine cond_f ?_ ?_)
               | (refine ⟨_, ⟨by decide, rfl⟩, ?_⟩)
               | (refine cond_i (fun h => ?_) (fun h => ?_)))
      all_goals (conv => whnf)
      all_goals rfl
    | true =>
      have n2 := bld_String1 (textL line (l.take l.length)) (by rw [List.take_length]; exact h)
      rw [List.take_length] at n2
      refine awp_go ?_
      rw [List.take_length]
      repeat' (conv => whnf
               first
               | (refine And.intro (by kernel_rfl) ?_)
               | (refine And.intro ⟨by kernel_rfl, by kernel_rfl⟩ ?_)
               | (refine cond_0 lt_end ?_)
               | (refine Or.inr ⟨_, n2, ?_⟩)
               | (refine cond_f ?_ ?_)
               | (refine ⟨_, ⟨by decide, rfl⟩, ?_⟩)
               | (refine cond_i (fun h => ?_) (fun h => ?_)))
      all_goals (conv => whnf)
      all_goals rfl
end Go.Proofs.YtcihkmnolagdlaaDoor.Cn
