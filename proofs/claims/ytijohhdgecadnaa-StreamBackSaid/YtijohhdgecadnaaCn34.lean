
/- Contracts: the document's numbers as bytes; frames; a law's looks at messages. No condition but sizes. -/
import Derived.Test.YtijohhdgecadnaaSp1
import Derived.Test.YtijohhdgecadnaaProg
import Derived.KernelRfl
import Derived.Test.YtijohhdgecadnaaCn32
import Derived.Test.YtijohhdgecadnaaCn33
import Derived.Test.YtijohhdgecadnaaAv16
namespace Go.Proofs.Ytijohhdgecadnaa.Cn
open Go Go.Proofs Go.Proofs.Ytijohhdgecadnaa.Av Go.Proofs.Ytijohhdgecadnaa.Sp
set_option linter.unusedVariables false
set_option linter.unusedSimpArgs false
set_option maxRecDepth 100000
attribute [local irreducible] Fv Fp

/-- A message's frame. -/
def _root_.Go.Proofs.Ytijohhdgecadnaa.Sp.packB (m : Msg) : ByteArray := if m.S.size > 4096 then ⟨#[]⟩ else strL [if m.last then 1 else 0] ++ numB (m.S.size : Nat) 4 ++ m.S
theorem num4_size (n : Nat) (h : n ≤ 4096) : (numB (n : Nat) 4).size = 4 := by
  have := numB_yes (n := n) (w := 4) (by omega) (by omega) (by omega)
  have e : numB (n : Nat) ((4 : Nat) : Int) = numB (n : Nat) 4 := rfl
  rw [← e, this, strL_size, dgs_len]
theorem pack_size (a b c : ByteArray) (n : Nat) (h : a.size + b.size + c.size ≤ n) (hn : n ≤ 9223372036854775807) : ((a.size + b.size : Nat) : Int) ≤ 9223372036854775807 ∧ (((a ++ b).size + c.size : Nat) : Int) ≤ 9223372036854775807 := by
  rw [ByteArray.size_append]; omega
theorem pack_of (S x y : ByteArray) (l : Bool) (h : S.size ≤ 4096) (n1 : Fv Try.prog 19 [.bool l] (.str x)) (n2 : Fv Try.prog 15 [.int .i64 (S.size : Nat), .int .i64 4] (.str y)) (hz : ((x.size + y.size : Nat) : Int) ≤ 9223372036854775807 ∧ (((x ++ y).size + S.size : Nat) : Int) ≤ 9223372036854775807) :
    Fv Try.prog 39 [.agg [.str S, .bool l]] (.str (x ++ y ++ S)) := by
  have b1 : decide ((S.size : Int) > 4096) = false := decide_eq_false (by omega)
  obtain ⟨z1, z2⟩ := hz
  refine Fv.of_awp Try.func39 rfl (by kernel_rfl) rfl (Nat.le_of_ble_eq_true rfl) ?_
  repeat' (conv => whnf
           first
           | (refine And.intro (by kernel_rfl) ?_)
           | (refine And.intro ⟨by kernel_rfl, by kernel_rfl⟩ ?_)
           | (refine cond_0 b1 ?_)
           | (refine Or.inl ⟨_, n1, ?_⟩)
           | (refine ⟨_, n1, ?_⟩)
           | (refine Or.inl ⟨_, n2, ?_⟩)
           | (refine ⟨_, n2, ?_⟩)
           | (refine ⟨z1, ?_⟩)
           | (refine ⟨z2, ?_⟩)
           | (refine cond_f ?_ ?_)
           | (refine ⟨_, ⟨by decide, rfl⟩, ?_⟩)
           | (refine cond_i (fun h => ?_) (fun h => ?_)))
  all_goals (conv => whnf)
  all_goals rfl
theorem pack_long (S : ByteArray) (l : Bool) (h : 4096 < S.size) : Fv Try.prog 39 [.agg [.str S, .bool l]] (.str ⟨#[]⟩) := by
  have b1 : decide ((S.size : Int) > 4096) = true := decide_eq_true (by omega)
  refine Fv.of_awp Try.func39 rfl (by kernel_rfl) rfl (Nat.le_of_ble_eq_true rfl) ?_
  repeat' (conv => whnf
           first
           | (refine And.intro (by kernel_rfl) ?_)
           | (refine And.intro ⟨by kernel_rfl, by kernel_rfl⟩ ?_)
           | (refine cond_1 b1 ?_)
           | (refine cond_f ?_ ?_)
           | (refine ⟨_, ⟨by decide, rfl⟩, ?_⟩)
           | (refine cond_i (fun h => ?_) (fun h => ?_)))
  all_goals (conv => whnf)
  all_goals rfl
theorem st_Pack (m : Msg) : Fv Try.prog 39 [.agg m.g] (.str (packB m)) := by
  obtain ⟨S, l⟩ := m
  unfold packB
  simp only
  by_cases h : S.size > 4096
  · rw [if_pos h]; exact pack_long S l h
  · rw [if_neg h]
    exact pack_of S _ _ l (by omega) (bytes_Flag l) (bytes_Num _ 4) (pack_size _ _ _ 5000 (by rw [strL_size, num4_size _ (by omega)]; simp; omega) (by omega))
theorem rpack_of (S x y : ByteArray) (l : Bool) (h : S.size ≤ 4096) (n1 : Fv Try.prog 16 [.int .i64 (if l then 1 else 0), .int .i64 1] (.str x)) (n2 : Fv Try.prog 16 [.int .i64 (S.size : Nat), .int .i64 4] (.str y)) (hz : ((x.size + y.size : Nat) : Int) ≤ 9223372036854775807 ∧ (((x ++ y).size + S.size : Nat) : Int) ≤ 9223372036854775807) :
    Fv Try.prog 40 [.agg [.str S, .bool l]] (.str (x ++ y ++ S)) := by
  have b1 : decide ((S.size : Int) > 4096) = false := decide_eq_false (by omega)
  obtain ⟨z1, z2⟩ := hz
  refine Fv.of_awp Try.func40 rfl (by kernel_rfl) rfl (Nat.le_of_ble_eq_true rfl) ?_
  cases l
  · skip
    repeat' (conv => whnf
             first
             | (refine And.intro (by kernel_rfl) ?_)
             | (refine And.intro ⟨by kernel_rfl, by kernel_rfl⟩ ?_)
             | (refine cond_0 b1 ?_)
             | (refine Or.inl ⟨_, n1, ?_⟩)
             | (refine ⟨_, n1, ?_⟩)
             | (refine Or.inl ⟨_, n2, ?_⟩)
             | (refine ⟨_, n2, ?_⟩)
             | (refine ⟨z1, ?_⟩)
             | (refine ⟨z2, ?_⟩)
             | (refine cond_f ?_ ?_)
             | (refine ⟨_, ⟨by decide, rfl⟩, ?_⟩)
             | (refine cond_i (fun h => ?_) (fun h => ?_)))
    all_goals (conv => whnf)
    all_goals rfl
  · skip
    repeat' (conv => whnf
             first
             | (refine And.intro (by kernel_rfl) ?_)
             | (refine And.intro ⟨by kernel_rfl, by kernel_rfl⟩ ?_)
             | (refine cond_0 b1 ?_)
             | (refine Or.inl ⟨_, n1, ?_⟩)
             | (refine ⟨_, n1, ?_⟩)
             | (refine Or.inl ⟨_, n2, ?_⟩)
             | (refine ⟨_, n2, ?_⟩)
             | (refine ⟨z1, ?_⟩)
             | (refine ⟨z2, ?_⟩)
             | (refine cond_f ?_ ?_)
             | (refine ⟨_, ⟨by decide, rfl⟩, ?_⟩)
             | (refine cond_i (fun h => ?_) (fun h => ?_)))
    all_goals (conv => whnf)
    all_goals rfl
theorem rpack_long (S : ByteArray) (l : Bool) (h : 4096 < S.size) : Fv Try.prog 40 [.agg [.str S, .bool l]] (.str ⟨#[]⟩) := by
  have b1 : decide ((S.size : Int) > 4096) = true := decide_eq_true (by omega)
  refine Fv.of_awp Try.func40 rfl (by kernel_rfl) rfl (Nat.le_of_ble_eq_true rfl) ?_
  repeat' (conv => whnf
           first
           | (refine And.intro (by kernel_rfl) ?_)
           | (refine And.intro ⟨by kernel_rfl, by kernel_rfl⟩ ?_)
           | (refine cond_1 b1 ?_)
           | (refine cond_f ?_ ?_)
           | (refine ⟨_, ⟨by decide, rfl⟩, ?_⟩)
           | (refine cond_i (fun h => ?_) (fun h => ?_)))
  all_goals (conv => whnf)
  all_goals rfl
theorem flag_num (l : Bool) : numB (if l then 1 else 0) 1 = strL [if l then 1 else 0] := by cases l <;> rfl
theorem ref38_Pack (m : Msg) : Fv Try.prog 40 [.agg m.g] (.str (packB m)) := by
  obtain ⟨S, l⟩ := m
  unfold packB
  simp only
  by_cases h : S.size > 4096
  · rw [if_pos h]; exact rpack_long S l h
  · rw [if_neg h]
    have n1 := ref04_Num (if l then 1 else 0) 1 (by split <;> omega)
    rw [flag_num] at n1
    exact rpack_of S _ _ l (by omega) n1 (ref04_Num _ 4 (by omega)) (pack_size _ _ _ 5000 (by rw [strL_size, num4_size _ (by omega)]; simp; omega) (by omega))
theorem over_last {xs : List Msg} {y : Msg} : lastOf (xs ++ [y]) false = y.last := by unfold lastOf; simp
theorem ref38_Over (xs : List Msg) (h : xs.length < 4611686018427387904) : Fv Try.prog 37 [.sl (xs.map Msg.g)] (.bool (lastOf xs false)) := by
  rcases List.eq_nil_or_concat xs with rfl | ⟨ys, y, rfl⟩
  · refine Fv.of_awp Try.func37 rfl (by kernel_rfl) rfl (Nat.le_of_ble_eq_true rfl) ?_
    repeat' (conv => whnf
             first
             | (refine And.intro (by kernel_rfl) ?_)
             | (refine And.intro ⟨by kernel_rfl, by kernel_rfl⟩ ?_)
             | (refine cond_f ?_ ?_)
             | (refine ⟨_, ⟨by decide, rfl⟩, ?_⟩)
             | (refine cond_i (fun h => ?_) (fun h => ?_)))
    all_goals (conv => whnf)
    all_goals rfl
  · simp only [List.concat_eq_append] at *
    rw [over_last]
    have hl : (ys ++ [y]).length = ys.length + 1 := by simp
    have b1 : decide ((((ys ++ [y]).map Msg.g).length : Int) > 0) = true := decide_eq_true (by simp)
    have w : IntKind.i64.wrap ((((ys ++ [y]).map Msg.g).length : Int) - 1) = (ys.length : Int) := by rw [List.length_map, hl, wrap_i64 (by omega)]; omega
    have f : 0 ≤ IntKind.i64.wrap ((((ys ++ [y]).map Msg.g).length : Int) - 1) ∧ ((ys ++ [y]).map Msg.g)[(IntKind.i64.wrap ((((ys ++ [y]).map Msg.g).length : Int) - 1)).toNat]? = some y.g := ⟨by rw [w]; omega, by rw [w]; simp⟩
    refine Fv.of_awp Try.func37 rfl (by kernel_rfl) rfl (Nat.le_of_ble_eq_true rfl) ?_
    repeat' (conv => whnf
             first
             | (refine And.intro (by kernel_rfl) ?_)
             | (refine And.intro ⟨by kernel_rfl, by kernel_rfl⟩ ?_)
             | (refine cond_1 b1 ?_)
             | (refine ⟨_, f, ?_⟩)
             | (refine cond_f ?_ ?_)
             | (refine ⟨_, ⟨by decide, rfl⟩, ?_⟩)
             | (refine cond_i (fun h => ?_) (fun h => ?_)))
    all_goals (conv => whnf)
    all_goals rfl
theorem wrap_at {a b : Nat} (h : a + b < 4611686018427387904) : IntKind.i64.wrap ((a : Int) + (b : Int)) = ((a + b : Nat) : Int) := by rw [wrap_i64 (by omega)]; omega
set_option maxHeartbeats 4000000 in
theorem law38_like (ps xs : List Msg) (h : (ps ++ xs).length < 4611686018427387904) : Fv Try.prog 35 [.sl (xs.map Msg.g), .sl ((ps ++ xs).map Msg.g), .int .i64 (ps.length : Nat)] (.bool true) := by
  have hl : (ps ++ xs).length = ps.length + xs.length := by simp
  have w0 : IntKind.i64.wrap (((xs.map Msg.g).length : Int) + ((ps.length : Nat) : Int)) = (((ps ++ xs).map Msg.g).length : Int) := by rw [List.length_map, List.length_map, hl, wrap_at (by omega)]; omega
  have b0 : (IntKind.i64.wrap (((xs.map Msg.g).length : Int) + ((ps.length : Nat) : Int)) != (((ps ++ xs).map Msg.g).length : Int)) = false := by rw [w0]; simp
  refine Fv.of_awp Try.func35 rfl (by kernel_rfl) rfl (Nat.le_of_ble_eq_true rfl) ?_
  repeat' (conv => whnf
           first
           | (refine And.intro (by kernel_rfl) ?_)
           | (refine And.intro ⟨by kernel_rfl, by kernel_rfl⟩ ?_)
           | (refine cond_0 b0 ?_)
           | (refine cond_f ?_ ?_)
           | (refine ⟨_, ⟨by decide, rfl⟩, ?_⟩)
           | (refine cond_i (fun h => ?_) (fun h => ?_)))
  all_goals (conv => whnf)
  refine Has.each [0, 1, 2, 7] [] xs.length (fun k (b : Unit) => True) (fun b i =>
    St.of 49 [(0, .sl (xs.map Msg.g)), (1, .sl ((ps ++ xs).map Msg.g)), (2, .int .i64 (ps.length : Nat)), (7, .int .i64 i)] [] []) ⟨(), 0, rfl, trivial, rfl⟩ (fun k b hk hI => ?_) (fun b hI => ?_)
  · have f1 := row_at (R := Msg.g) hk
    have w1 : IntKind.i64.wrap (((ps.length : Nat) : Int) + (k : Int)) = ((ps.length + k : Nat) : Int) := wrap_at (by omega)
    have f2 : 0 ≤ IntKind.i64.wrap (((ps.length : Nat) : Int) + (k : Int)) ∧ ((ps ++ xs).map Msg.g)[(IntKind.i64.wrap (((ps.length : Nat) : Int) + (k : Int))).toNat]? = some (Msg.g xs[k]) := ⟨by rw [w1]; omega, by
      rw [w1, Int.toNat_natCast, List.getElem?_map, List.getElem?_append_right (by omega), show ps.length + k - ps.length = k from by omega, List.getElem?_eq_getElem hk]; rfl⟩
    have c2 : (!(strEq xs[k].S xs[k].S)) = false := by rw [strEq_self]; rfl
    have c3 : (!(xs[k].last == xs[k].last)) = false := by simp
    refine awp_go ?_
    repeat' (conv => whnf
             first
             | (refine And.intro (by kernel_rfl) ?_)
             | (refine And.intro ⟨by kernel_rfl, by kernel_rfl⟩ ?_)
             | (refine cond_1 (lt_at hk) ?_)
             | (refine ⟨_, f1, ?_⟩)
             | (refine ⟨_, f2, ?_⟩)
             | (refine cond_0 c2 ?_)
             | (refine cond_0 c3 ?_)
             | (refine cond_f ?_ ?_)
             | (refine ⟨_, ⟨by decide, rfl⟩, ?_⟩)
             | (refine cond_i (fun h => ?_) (fun h => ?_)))
    all_goals (conv => whnf)
    all_goals first | (exact And.intro (by kernel_rfl) ⟨(), _, rfl, trivial, wrap_i64 (by omega)⟩) | (exact ⟨(), _, rfl, trivial, wrap_i64 (by omega)⟩)
  · refine awp_go ?_
    repeat' (conv => whnf
             first
             | (refine And.intro (by kernel_rfl) ?_)
             | (refine And.intro ⟨by kernel_rfl, by kernel_rfl⟩ ?_)
             | (refine cond_0 lt_end ?_)
             | (refine cond_f ?_ ?_)
             | (refine ⟨_, ⟨by decide, rfl⟩, ?_⟩)
             | (refine cond_i (fun h => ?_) (fun h => ?_)))
    all_goals (conv => whnf)
    all_goals rfl
end Go.Proofs.Ytijohhdgecadnaa.Cn
