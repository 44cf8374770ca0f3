
/- Contracts: identities and keys, whether they may be, as bytes, and read. No condition but that a reader is within its bytes. -/
import Derived.Test.YtfpincfmcjiokaaCn75
import Derived.Test.YtfpincfmcjiokaaSp20
namespace Go.Proofs.Ytfpincfmcjiokaa.Cn
open Go Go.Proofs Go.Proofs.Ytfpincfmcjiokaa.Av Go.Proofs.Ytfpincfmcjiokaa.Sp
set_option linter.unusedVariables false
set_option linter.unusedSimpArgs false
set_option linter.unusedSectionVars false
set_option maxRecDepth 100000
attribute [local irreducible] Fv Fp

theorem ident_Right (d : Sp.Id) : Fv Try.prog 52 [.agg d.g] (.bool (okId d)) := by
  refine Fv.of_awp Try.func52 rfl (by kernel_rfl) rfl (Nat.le_of_ble_eq_true rfl) ?_
  repeat' (conv => whnf
           first
           | (refine And.intro (by kernel_rfl) ?_)
           | (refine And.intro ⟨by kernel_rfl, by kernel_rfl⟩ ?_)
           | (refine cond_f ?_ ?_)
           | (refine ⟨_, ⟨by decide, rfl⟩, ?_⟩)
           | (refine cond_i (fun h => ?_) (fun h => ?_)))
  all_goals (conv => whnf)
  all_goals
    refine bool_eq ?_
    rw [Bool.eq_iff_iff, okId_iff]
    simp only [decide_eq_true_eq, decide_eq_false_iff_not, ge_iff_le, Bool.false_eq_true, false_iff] at *
    omega
theorem ref07_Right (d : Sp.Id) : Fv Try.prog 19 [.agg d.g] (.bool (okId d)) := by
  refine Fv.of_awp Try.func19 rfl (by kernel_rfl) rfl (Nat.le_of_ble_eq_true rfl) ?_
  repeat' (conv => whnf
           first
           | (refine And.intro (by kernel_rfl) ?_)
           | (refine And.intro ⟨by kernel_rfl, by kernel_rfl⟩ ?_)
           | (refine cond_f ?_ ?_)
           | (refine ⟨_, ⟨by decide, rfl⟩, ?_⟩)
           | (refine cond_i (fun h => ?_) (fun h => ?_)))
  all_goals (conv => whnf)
  all_goals
    refine bool_eq ?_
    rw [Bool.eq_iff_iff, okId_iff]
    simp only [decide_eq_true_eq, decide_eq_false_iff_not, ge_iff_le, Bool.false_eq_true, false_iff] at *
    omega
theorem ident_Key (k : Key) : Fv Try.prog 50 [.agg k.g] (.bool (okKey k)) := by
  have n1 := ident_Right k.id
  unfold okKey
  generalize okId k.id = b at *
  refine Fv.of_awp Try.func50 rfl (by kernel_rfl) rfl (Nat.le_of_ble_eq_true rfl) ?_
  cases b
  · skip
    repeat' (conv => whnf
             first
             | (refine And.intro (by kernel_rfl) ?_)
             | (refine And.intro ⟨by kernel_rfl, by kernel_rfl⟩ ?_)
             | (refine Or.inl ⟨_, n1, ?_⟩)
             | (refine ⟨_, n1, ?_⟩)
             | (refine cond_f ?_ ?_)
             | (refine ⟨_, ⟨by decide, rfl⟩, ?_⟩)
             | (refine cond_i (fun h => ?_) (fun h => ?_)))
    all_goals (conv => whnf)
    all_goals rfl
  · skip
    repeat' (conv => whnf
             first
             | (refine And.intro (by kernel_rfl) ?_)
             | (refine And.intro ⟨by kernel_rfl, by kernel_rfl⟩ ?_)
             | (refine Or.inl ⟨_, n1, ?_⟩)
             | (refine ⟨_, n1, ?_⟩)
             | (refine cond_f ?_ ?_)
             | (refine ⟨_, ⟨by decide, rfl⟩, ?_⟩)
             | (refine cond_i (fun h => ?_) (fun h => ?_)))
    all_goals (conv => whnf)
    all_goals
      refine bool_eq ?_
      rw [Bool.eq_iff_iff, Bool.and_eq_true]
      simp only [decide_eq_true_eq, decide_eq_false_iff_not, ge_iff_le, Bool.false_eq_true, false_iff, true_and] at *
      omega
theorem ref07_Key (k : Key) : Fv Try.prog 16 [.agg k.g] (.bool (okKey k)) := by
  have n1 := ref07_Right k.id
  unfold okKey
  generalize okId k.id = b at *
  refine Fv.of_awp Try.func16 rfl (by kernel_rfl) rfl (Nat.le_of_ble_eq_true rfl) ?_
  cases b
  · skip
    repeat' (conv => whnf
             first
             | (refine And.intro (by kernel_rfl) ?_)
             | (refine And.intro ⟨by kernel_rfl, by kernel_rfl⟩ ?_)
             | (refine Or.inl ⟨_, n1, ?_⟩)
             | (refine ⟨_, n1, ?_⟩)
             | (refine cond_f ?_ ?_)
             | (refine ⟨_, ⟨by decide, rfl⟩, ?_⟩)
             | (refine cond_i (fun h => ?_) (fun h => ?_)))
    all_goals (conv => whnf)
    all_goals rfl
  · skip
    repeat' (conv => whnf
             first
             | (refine And.intro (by kernel_rfl) ?_)
             | (refine And.intro ⟨by kernel_rfl, by kernel_rfl⟩ ?_)
             | (refine Or.inl ⟨_, n1, ?_⟩)
             | (refine ⟨_, n1, ?_⟩)
             | (refine cond_f ?_ ?_)
             | (refine ⟨_, ⟨by decide, rfl⟩, ?_⟩)
             | (refine cond_i (fun h => ?_) (fun h => ?_)))
    all_goals (conv => whnf)
    all_goals
      refine bool_eq ?_
      rw [Bool.eq_iff_iff, Bool.and_eq_true]
      simp only [decide_eq_true_eq, decide_eq_false_iff_not, ge_iff_le, Bool.false_eq_true, false_iff, true_and] at *
      omega
theorem numB_le (n w : Int) : (numB n w).size ≤ 7 := by
  unfold numB
  split
  · rename_i h
    have h : 1 ≤ w ∧ w ≤ 7 ∧ 0 ≤ n ∧ n < 256 ^ w.toNat := by unfold okN at h; simpa using h
    rw [strL_size, dgs_len]; omega
  · rw [strL_size]; simp
theorem ident_Code (d : Sp.Id) : Fv Try.prog 30 [.agg d.g] (.str (idB d)) := by
  have n1 := bytes_Num d.node 1
  have n2 := bytes_Num d.inc 2
  have n3 := bytes_Num d.seq 3
  have s1 := numB_le d.node 1
  have s2 := numB_le d.inc 2
  have s3 := numB_le d.seq 3
  unfold idB
  generalize numB d.node 1 = x at *
  generalize numB d.inc 2 = y at *
  generalize numB d.seq 3 = z at *
  have z1 : ((x.size + y.size : Nat) : Int) ≤ 9223372036854775807 := by omega
  have z2 : (((x ++ y).size + z.size : Nat) : Int) ≤ 9223372036854775807 := by rw [ByteArray.size_append]; omega
  refine Fv.of_awp Try.func30 rfl (by kernel_rfl) rfl (Nat.le_of_ble_eq_true rfl) ?_
  repeat' (conv => whnf
           first
           | (refine And.intro (by kernel_rfl) ?_)
           | (refine And.intro ⟨by kernel_rfl, by kernel_rfl⟩ ?_)
           | (refine Or.inl ⟨_, n1, ?_⟩)
           | (refine ⟨_, n1, ?_⟩)
           | (refine Or.inl ⟨_, n2, ?_⟩)
           | (refine ⟨_, n2, ?_⟩)
           | (refine Or.inl ⟨_, n3, ?_⟩)
           | (refine ⟨_, n3, ?_⟩)
           | (refine ⟨z1, ?_⟩)
           | (refine ⟨z2, ?_⟩)
           | (refine cond_f ?_ ?_)
           | (refine ⟨_, ⟨by decide, rfl⟩, ?_⟩)
           | (refine cond_i (fun h => ?_) (fun h => ?_)))
  all_goals (conv => whnf)
  all_goals rfl
theorem ref07_Code (d : Sp.Id) (h : d.node ≤ 9223372036854775807 ∧ d.inc ≤ 9223372036854775807 ∧ d.seq ≤ 9223372036854775807) : Fv Try.prog 45 [.agg d.g] (.str (idB d)) := by
  have n1 := ref04_Num d.node 1 h.1
  have n2 := ref04_Num d.inc 2 h.2.1
  have n3 := ref04_Num d.seq 3 h.2.2
  have s1 := numB_le d.node 1
  have s2 := numB_le d.inc 2
  have s3 := numB_le d.seq 3
  unfold idB
  generalize numB d.node 1 = x at *
  generalize numB d.inc 2 = y at *
  generalize numB d.seq 3 = z at *
  have z1 : ((x.size + y.size : Nat) : Int) ≤ 9223372036854775807 := by omega
  have z2 : (((x ++ y).size + z.size : Nat) : Int) ≤ 9223372036854775807 := by rw [ByteArray.size_append]; omega
  refine Fv.of_awp Try.func45 rfl (by kernel_rfl) rfl (Nat.le_of_ble_eq_true rfl) ?_
  repeat' (conv => whnf
           first
           | (refine And.intro (by kernel_rfl) ?_)
           | (refine And.intro ⟨by kernel_rfl, by kernel_rfl⟩ ?_)
           | (refine Or.inl ⟨_, n1, ?_⟩)
           | (refine ⟨_, n1, ?_⟩)
           | (refine Or.inl ⟨_, n2, ?_⟩)
           | (refine ⟨_, n2, ?_⟩)
           | (refine Or.inl ⟨_, n3, ?_⟩)
           | (refine ⟨_, n3, ?_⟩)
           | (refine ⟨z1, ?_⟩)
           | (refine ⟨z2, ?_⟩)
           | (refine cond_f ?_ ?_)
           | (refine ⟨_, ⟨by decide, rfl⟩, ?_⟩)
           | (refine cond_i (fun h => ?_) (fun h => ?_)))
  all_goals (conv => whnf)
  all_goals rfl
theorem idB_le (d : Sp.Id) : (idB d).size ≤ 21 := by
  have s1 := numB_le d.node 1
  have s2 := numB_le d.inc 2
  have s3 := numB_le d.seq 3
  unfold idB; simp only [ByteArray.size_append]; omega
theorem keyB_le (k : Key) : (keyB k).size ≤ 28 := by
  have s1 := idB_le k.id
  have s2 := numB_le k.att 1
  unfold keyB; simp only [ByteArray.size_append]; omega
theorem ident_KeyCode (k : Key) : Fv Try.prog 28 [.agg k.g] (.str (keyB k)) := by
  have n1 := ident_Code k.id
  have n2 := bytes_Num k.att 1
  have s1 := idB_le k.id
  have s2 := numB_le k.att 1
  unfold keyB
  generalize idB k.id = x at *
  generalize numB k.att 1 = y at *
  refine Fv.of_awp Try.func28 rfl (by kernel_rfl) rfl (Nat.le_of_ble_eq_true rfl) ?_
  repeat' (conv => whnf
           first
           | (refine And.intro (by kernel_rfl) ?_)
           | (refine And.intro ⟨by kernel_rfl, by kernel_rfl⟩ ?_)
           | (refine Or.inl ⟨_, n1, ?_⟩)
           | (refine ⟨_, n1, ?_⟩)
           | (refine Or.inl ⟨_, n2, ?_⟩)
           | (refine ⟨_, n2, ?_⟩)
           | (refine ⟨by omega, ?_⟩)
           | (refine cond_f ?_ ?_)
           | (refine ⟨_, ⟨by decide, rfl⟩, ?_⟩)
           | (refine cond_i (fun h => ?_) (fun h => ?_)))
  all_goals (conv => whnf)
  all_goals rfl
theorem ref07_KeyCode (k : Key) (h : k.id.node ≤ 9223372036854775807 ∧ k.id.inc ≤ 9223372036854775807 ∧ k.id.seq ≤ 9223372036854775807 ∧ k.att ≤ 9223372036854775807) : Fv Try.prog 43 [.agg k.g] (.str (keyB k)) := by
  have n1 := ref07_Code k.id ⟨h.1, h.2.1, h.2.2.1⟩
  have n2 := ref04_Num k.att 1 h.2.2.2
  have s1 := idB_le k.id
  have s2 := numB_le k.att 1
  unfold keyB
  generalize idB k.id = x at *
  generalize numB k.att 1 = y at *
  refine Fv.of_awp Try.func43 rfl (by kernel_rfl) rfl (Nat.le_of_ble_eq_true rfl) ?_
  repeat' (conv => whnf
           first
           | (refine And.intro (by kernel_rfl) ?_)
           | (refine And.intro ⟨by kernel_rfl, by kernel_rfl⟩ ?_)
           | (refine Or.inl ⟨_, n1, ?_⟩)
           | (refine ⟨_, n1, ?_⟩)
           | (refine Or.inl ⟨_, n2, ?_⟩)
           | (refine ⟨_, n2, ?_⟩)
           | (refine ⟨by omega, ?_⟩)
           | (refine cond_f ?_ ?_)
           | (refine ⟨_, ⟨by decide, rfl⟩, ?_⟩)
           | (refine cond_i (fun h => ?_) (fun h => ?_)))
  all_goals (conv => whnf)
  all_goals rfl
theorem read_of (r a b c f : Rd) (x y z : Int) (ok : Bool) (n1 : Fp Try.prog 35 [.ptr 0 0, .int .i64 1] [r.gp] [] (.int .i64 x, [some a.gp], []))
    (n2 : Fp Try.prog 35 [.ptr 0 0, .int .i64 2] [a.gp] [] (.int .i64 y, [some b.gp], []))
    (n3 : Fp Try.prog 35 [.ptr 0 0, .int .i64 3] [b.gp] [] (.int .i64 z, [some c.gp], []))
    (n4 : Fv Try.prog 52 [.agg [.int .i64 x, .int .i64 y, .int .i64 z]] (.bool ok))
    (n5 : Fp Try.prog 40 [.ptr 0 0, .int .i64 2] [c.gp] [] (.tup [], [some f.gp], [])) :
    Fp Try.prog 38 [.ptr 0 0] [r.gp] [] (.agg (bif ok then [.int .i64 x, .int .i64 y, .int .i64 z] else zId.g), [some (bif ok then c.gp else f.gp)], []) := by
  refine Fp.of_awp Try.func38 rfl (by kernel_rfl) (Nat.le_of_ble_eq_true rfl) ?_
  cases ok
  · skip
    repeat' (conv => whnf
             first
             | (refine And.intro (by kernel_rfl) ?_)
             | (refine And.intro ⟨by kernel_rfl, by kernel_rfl⟩ ?_)
             | (refine Or.inr ⟨_, n1, ?_⟩)
             | (refine Or.inr ⟨_, n2, ?_⟩)
             | (refine Or.inr ⟨_, n3, ?_⟩)
             | (refine Or.inl ⟨_, n4, ?_⟩)
             | (refine ⟨_, n4, ?_⟩)
             | (refine Or.inr ⟨_, n5, ?_⟩)
             | (refine cond_f ?_ ?_)
             | (refine ⟨_, ⟨by decide, rfl⟩, ?_⟩)
             | (refine cond_i (fun h => ?_) (fun h => ?_)))
    all_goals (conv => whnf)
    all_goals rfl
  · skip
    repeat' (conv => whnf
             first
             | (refine And.intro (by kernel_rfl) ?_)
             | (refine And.intro ⟨by kernel_rfl, by kernel_rfl⟩ ?_)
             | (refine Or.inr ⟨_, n1, ?_⟩)
             | (refine Or.inr ⟨_, n2, ?_⟩)
             | (refine Or.inr ⟨_, n3, ?_⟩)
             | (refine Or.inl ⟨_, n4, ?_⟩)
             | (refine ⟨_, n4, ?_⟩)
             | (refine Or.inr ⟨_, n5, ?_⟩)
             | (refine cond_f ?_ ?_)
             | (refine ⟨_, ⟨by decide, rfl⟩, ?_⟩)
             | (refine cond_i (fun h => ?_) (fun h => ?_)))
    all_goals (conv => whnf)
    all_goals rfl
theorem ident_Read (r : Rd) (h : r.ok) : Fp Try.prog 38 [.ptr 0 0] [r.gp] [] (.agg (rId r).2.g, [some (rId r).1.gp], []) := by
  have h1 := rNum_ok r 1 h
  have h2 := rNum_ok _ 2 h1
  have := read_of r _ _ _ _ _ _ _ (okId ⟨(rNum r 1).2, (rNum (rNum r 1).1 2).2, (rNum (rNum (rNum r 1).1 2).1 3).2⟩) (pr_Num r 1 h) (pr_Num _ 2 h1) (pr_Num _ 3 h2) (ident_Right ⟨_, _, _⟩) (pr_Fail _ 2)
  unfold rId
  simp only
  cases hk : okId ⟨(rNum r 1).2, (rNum (rNum r 1).1 2).2, (rNum (rNum (rNum r 1).1 2).1 3).2⟩ with
  | true => rw [hk] at this; exact this
  | false => rw [hk] at this; exact this
theorem readKey_of (r a b f : Rd) (d : Sp.Id) (x : Int) (ok : Bool) (n1 : Fp Try.prog 38 [.ptr 0 0] [r.gp] [] (.agg d.g, [some a.gp], []))
    (n2 : Fp Try.prog 35 [.ptr 0 0, .int .i64 1] [a.gp] [] (.int .i64 x, [some b.gp], []))
    (n3 : Fv Try.prog 50 [.agg (⟨d, x⟩ : Key).g] (.bool ok))
    (n4 : Fp Try.prog 40 [.ptr 0 0, .int .i64 2] [b.gp] [] (.tup [], [some f.gp], [])) :
    Fp Try.prog 36 [.ptr 0 0] [r.gp] [] (.agg (bif ok then (⟨d, x⟩ : Key).g else zKey.g), [some (bif ok then b.gp else f.gp)], []) := by
  refine Fp.of_awp Try.func36 rfl (by kernel_rfl) (Nat.le_of_ble_eq_true rfl) ?_
  cases ok
  · skip
    repeat' (conv => whnf
             first
             | (refine And.intro (by kernel_rfl) ?_)
             | (refine And.intro ⟨by kernel_rfl, by kernel_rfl⟩ ?_)
             | (refine Or.inr ⟨_, n1, ?_⟩)
             | (refine Or.inr ⟨_, n2, ?_⟩)
             | (refine Or.inl ⟨_, n3, ?_⟩)
             | (refine ⟨_, n3, ?_⟩)
             | (refine Or.inr ⟨_, n4, ?_⟩)
             | (refine cond_f ?_ ?_)
             | (refine ⟨_, ⟨by decide, rfl⟩, ?_⟩)
             | (refine cond_i (fun h => ?_) (fun h => ?_)))
    all_goals (conv => whnf)
    all_goals rfl
  · skip
    repeat' (conv => whnf
             first
             | (refine And.intro (by kernel_rfl) ?_)
             | (refine And.intro ⟨by kernel_rfl, by kernel_rfl⟩ ?_)
             | (refine Or.inr ⟨_, n1, ?_⟩)
             | (refine Or.inr ⟨_, n2, ?_⟩)
             | (refine Or.inl ⟨_, n3, ?_⟩)
             | (refine ⟨_, n3, ?_⟩)
             | (refine Or.inr ⟨_, n4, ?_⟩)
             | (refine cond_f ?_ ?_)
             | (refine ⟨_, ⟨by decide, rfl⟩, ?_⟩)
             | (refine cond_i (fun h => ?_) (fun h => ?_)))
    all_goals (conv => whnf)
    all_goals rfl
theorem ident_ReadKey (r : Rd) (h : r.ok) : Fp Try.prog 36 [.ptr 0 0] [r.gp] [] (.agg (rKey r).2.g, [some (rKey r).1.gp], []) := by
  have h1 := rId_ok r h
  have := readKey_of r _ _ _ _ _ (okKey ⟨(rId r).2, (rNum (rId r).1 1).2⟩) (ident_Read r h) (pr_Num _ 1 h1) (ident_Key ⟨_, _⟩) (pr_Fail _ 2)
  unfold rKey
  simp only
  cases hk : okKey ⟨(rId r).2, (rNum (rId r).1 1).2⟩ with
  | true => rw [hk] at this; exact this
  | false => rw [hk] at this; exact this
end Go.Proofs.Ytfpincfmcjiokaa.Cn
