
/- Contracts: the packet of any bytes. No condition but lengths. -/
import Derived.Test.YtfpincfmcjiokaaCn83
namespace Go.Proofs.Ytfpincfmcjiokaa.Cn
open Go Go.Proofs Go.Proofs.Ytfpincfmcjiokaa.Av Go.Proofs.Ytfpincfmcjiokaa.Sp
set_option linter.unusedVariables false
set_option linter.unusedSimpArgs false
set_option linter.unusedSectionVars false
set_option maxRecDepth 100000
attribute [local irreducible] Fv Fp

section
variable (s t : ByteArray) (r a b c k e : Rd) (x y z : Int) (key : Key) (ok : Bool) (n0 : Fv Try.prog 33 [.str s] (.tup [.str t, .bool true]))
  (n1 : Fp Try.prog 34 [.str t] [] [] (.ptr 0 0, [some r.gp], []))
  (m1 : Fp Try.prog 35 [.ptr 0 0, .int .i64 1] [r.gp] [] (.int .i64 x, [some a.gp], []))
  (m2 : Fp Try.prog 35 [.ptr 0 0, .int .i64 1] [a.gp] [] (.int .i64 y, [some b.gp], []))
  (m3 : Fp Try.prog 35 [.ptr 0 0, .int .i64 1] [b.gp] [] (.int .i64 z, [some c.gp], []))
  (m4 : Fp Try.prog 36 [.ptr 0 0] [c.gp] [] (.agg key.g, [some k.gp], []))
include n0 n1 m1 m2 m3 m4
set_option maxHeartbeats 4000000 in
theorem parse_3 (hk : x = 3)
    (mE : Fp Try.prog 41 [.ptr 0 0] [k.gp] [] (.int .i64 e.bad, [some e.gp], []))
    (n2 : Fv Try.prog 8 [.agg (⟨x, y, z, key, 0, 0, ⟨#[]⟩, 0, 0, zId, zKey, 0, 0, false, 0⟩ : Packet).g] (.bool ok)) :
    Fv Try.prog 12 [.str s] (outP e.bad ok ⟨x, y, z, key, 0, 0, ⟨#[]⟩, 0, 0, zId, zKey, 0, 0, false, 0⟩) := by
  have b1 : (x == 1) = false := by simp [hk]
  have b2 : (x == 2) = false := by simp [hk]
  have b4 : (x == 4) = false := by simp [hk]
  have b5 : (x == 5) = false := by simp [hk]
  have b3 : (x == 3) = true := by simp [hk]
  unfold outP
  generalize hb : (e.bad != 0) = eb
  cases eb
  · cases ok
    · refine Fv.of_awp Try.func12 rfl (by kernel_rfl) rfl (Nat.le_of_ble_eq_true rfl) ?_
      repeat' (conv => whnf
               first
               | (refine And.intro (by kernel_rfl) ?_)
               | (refine And.intro ⟨by kernel_rfl, by kernel_rfl⟩ ?_)
               | (refine Or.inl ⟨_, n0, ?_⟩)
               | (refine ⟨_, n0, ?_⟩)
               | (refine Or.inr ⟨_, n1, ?_⟩)
               | (refine Or.inr ⟨_, m1, ?_⟩)
               | (refine Or.inr ⟨_, m2, ?_⟩)
               | (refine Or.inr ⟨_, m3, ?_⟩)
               | (refine Or.inr ⟨_, m4, ?_⟩)
               | (refine cond_0 b1 ?_)
               | (refine cond_0 b2 ?_)
               | (refine cond_0 b4 ?_)
               | (refine cond_0 b5 ?_)
               | (refine cond_1 b3 ?_)
               | (refine Or.inr ⟨_, mE, ?_⟩)
               | (refine cond_0 hb ?_)
               | (refine Or.inl ⟨_, n2, ?_⟩)
               | (refine ⟨_, n2, ?_⟩)
               | (refine cond_f ?_ ?_)
               | (refine ⟨_, ⟨by decide, rfl⟩, ?_⟩)
               | (refine cond_i (fun h => ?_) (fun h => ?_)))
      all_goals (conv => whnf)
      all_goals rfl
    · refine Fv.of_awp Try.func12 rfl (by kernel_rfl) rfl (Nat.le_of_ble_eq_true rfl) ?_
      repeat' (conv => whnf
               first
               | (refine And.intro (by kernel_rfl) ?_)
               | (refine And.intro ⟨by kernel_rfl, by kernel_rfl⟩ ?_)
               | (refine Or.inl ⟨_, n0, ?_⟩)
               | (refine ⟨_, n0, ?_⟩)
               | (refine Or.inr ⟨_, n1, ?_⟩)
               | (refine Or.inr ⟨_, m1, ?_⟩)
               | (refine Or.inr ⟨_, m2, ?_⟩)
               | (refine Or.inr ⟨_, m3, ?_⟩)
               | (refine Or.inr ⟨_, m4, ?_⟩)
               | (refine cond_0 b1 ?_)
               | (refine cond_0 b2 ?_)
               | (refine cond_0 b4 ?_)
               | (refine cond_0 b5 ?_)
               | (refine cond_1 b3 ?_)
               | (refine Or.inr ⟨_, mE, ?_⟩)
               | (refine cond_0 hb ?_)
               | (refine Or.inl ⟨_, n2, ?_⟩)
               | (refine ⟨_, n2, ?_⟩)
               | (refine cond_f ?_ ?_)
               | (refine ⟨_, ⟨by decide, rfl⟩, ?_⟩)
               | (refine cond_i (fun h => ?_) (fun h => ?_)))
      all_goals (conv => whnf)
      all_goals rfl
  · refine Fv.of_awp Try.func12 rfl (by kernel_rfl) rfl (Nat.le_of_ble_eq_true rfl) ?_
    repeat' (conv => whnf
             first
             | (refine And.intro (by kernel_rfl) ?_)
             | (refine And.intro ⟨by kernel_rfl, by kernel_rfl⟩ ?_)
             | (refine Or.inl ⟨_, n0, ?_⟩)
             | (refine ⟨_, n0, ?_⟩)
             | (refine Or.inr ⟨_, n1, ?_⟩)
             | (refine Or.inr ⟨_, m1, ?_⟩)
             | (refine Or.inr ⟨_, m2, ?_⟩)
             | (refine Or.inr ⟨_, m3, ?_⟩)
             | (refine Or.inr ⟨_, m4, ?_⟩)
             | (refine cond_0 b1 ?_)
             | (refine cond_0 b2 ?_)
             | (refine cond_0 b4 ?_)
             | (refine cond_0 b5 ?_)
             | (refine cond_1 b3 ?_)
             | (refine Or.inr ⟨_, mE, ?_⟩)
             | (refine cond_1 hb ?_)
             | (refine cond_f ?_ ?_)
             | (refine ⟨_, ⟨by decide, rfl⟩, ?_⟩)
             | (refine cond_i (fun h => ?_) (fun h => ?_)))
    all_goals (conv => whnf)
    all_goals rfl
set_option maxHeartbeats 4000000 in
theorem parse_0 (q : Rd) (hk : x ≠ 1 ∧ x ≠ 2 ∧ x ≠ 3 ∧ x ≠ 4 ∧ x ≠ 5)
    (m5 : Fp Try.prog 40 [.ptr 0 0, .int .i64 9] [k.gp] [] (.tup [], [some q.gp], []))
    (mE : Fp Try.prog 41 [.ptr 0 0] [q.gp] [] (.int .i64 e.bad, [some e.gp], []))
    (n2 : Fv Try.prog 8 [.agg (⟨x, y, z, key, 0, 0, ⟨#[]⟩, 0, 0, zId, zKey, 0, 0, false, 0⟩ : Packet).g] (.bool ok)) :
    Fv Try.prog 12 [.str s] (outP e.bad ok ⟨x, y, z, key, 0, 0, ⟨#[]⟩, 0, 0, zId, zKey, 0, 0, false, 0⟩) := by
  have b1 : (x == 1) = false := by simp; omega
  have b2 : (x == 2) = false := by simp; omega
  have b4 : (x == 4) = false := by simp; omega
  have b5 : (x == 5) = false := by simp; omega
  have b3 : (x == 3) = false := by simp; omega
  unfold outP
  generalize hb : (e.bad != 0) = eb
  cases eb
  · cases ok
    · refine Fv.of_awp Try.func12 rfl (by kernel_rfl) rfl (Nat.le_of_ble_eq_true rfl) ?_
      repeat' (conv => whnf
               first
               | (refine And.intro (by kernel_rfl) ?_)
               | (refine And.intro ⟨by kernel_rfl, by kernel_rfl⟩ ?_)
               | (refine Or.inl ⟨_, n0, ?_⟩)
               | (refine ⟨_, n0, ?_⟩)
               | (refine Or.inr ⟨_, n1, ?_⟩)
               | (refine Or.inr ⟨_, m1, ?_⟩)
               | (refine Or.inr ⟨_, m2, ?_⟩)
               | (refine Or.inr ⟨_, m3, ?_⟩)
               | (refine Or.inr ⟨_, m4, ?_⟩)
               | (refine cond_0 b1 ?_)
               | (refine cond_0 b2 ?_)
               | (refine cond_0 b4 ?_)
               | (refine cond_0 b5 ?_)
               | (refine cond_0 b3 ?_)
               | (refine Or.inr ⟨_, m5, ?_⟩)
               | (refine Or.inr ⟨_, mE, ?_⟩)
               | (refine cond_0 hb ?_)
               | (refine Or.inl ⟨_, n2, ?_⟩)
               | (refine ⟨_, n2, ?_⟩)
               | (refine cond_f ?_ ?_)
               | (refine ⟨_, ⟨by decide, rfl⟩, ?_⟩)
               | (refine cond_i (fun h => ?_) (fun h => ?_)))
      all_goals (conv => whnf)
      all_goals rfl
    · refine Fv.of_awp Try.func12 rfl (by kernel_rfl) rfl (Nat.le_of_ble_eq_true rfl) ?_
      repeat' (conv => whnf
               first
               | (refine And.intro (by kernel_rfl) ?_)
               | (refine And.intro ⟨by kernel_rfl, by kernel_rfl⟩ ?_)
               | (refine Or.inl ⟨_, n0, ?_⟩)
               | (refine ⟨_, n0, ?_⟩)
               | (refine Or.inr ⟨_, n1, ?_⟩)
               | (refine Or.inr ⟨_, m1, ?_⟩)
               | (refine Or.inr ⟨_, m2, ?_⟩)
               | (refine Or.inr ⟨_, m3, ?_⟩)
               | (refine Or.inr ⟨_, m4, ?_⟩)
               | (refine cond_0 b1 ?_)
               | (refine cond_0 b2 ?_)
               | (refine cond_0 b4 ?_)
               | (refine cond_0 b5 ?_)
               | (refine cond_0 b3 ?_)
               | (refine Or.inr ⟨_, m5, ?_⟩)
               | (refine Or.inr ⟨_, mE, ?_⟩)
               | (refine cond_0 hb ?_)
               | (refine Or.inl ⟨_, n2, ?_⟩)
               | (refine ⟨_, n2, ?_⟩)
               | (refine cond_f ?_ ?_)
               | (refine ⟨_, ⟨by decide, rfl⟩, ?_⟩)
               | (refine cond_i (fun h => ?_) (fun h => ?_)))
      all_goals (conv => whnf)
      all_goals rfl
  · refine Fv.of_awp Try.func12 rfl (by kernel_rfl) rfl (Nat.le_of_ble_eq_true rfl) ?_
    repeat' (conv => whnf
             first
             | (refine And.intro (by kernel_rfl) ?_)
             | (refine And.intro ⟨by kernel_rfl, by kernel_rfl⟩ ?_)
             | (refine Or.inl ⟨_, n0, ?_⟩)
             | (refine ⟨_, n0, ?_⟩)
             | (refine Or.inr ⟨_, n1, ?_⟩)
             | (refine Or.inr ⟨_, m1, ?_⟩)
             | (refine Or.inr ⟨_, m2, ?_⟩)
             | (refine Or.inr ⟨_, m3, ?_⟩)
             | (refine Or.inr ⟨_, m4, ?_⟩)
             | (refine cond_0 b1 ?_)
             | (refine cond_0 b2 ?_)
             | (refine cond_0 b4 ?_)
             | (refine cond_0 b5 ?_)
             | (refine cond_0 b3 ?_)
             | (refine Or.inr ⟨_, m5, ?_⟩)
             | (refine Or.inr ⟨_, mE, ?_⟩)
             | (refine cond_1 hb ?_)
             | (refine cond_f ?_ ?_)
             | (refine ⟨_, ⟨by decide, rfl⟩, ?_⟩)
             | (refine cond_i (fun h => ?_) (fun h => ?_)))
    all_goals (conv => whnf)
    all_goals rfl
end
theorem rd_gp0 (t : ByteArray) : (⟨t, 0, 0⟩ : Rd).gp = [.str t, .int .i64 0] := by
  have e : (⟨t, 0, 0⟩ : Rd).p = t := by show t.extract 0 t.size = t; exact ByteArray.extract_zero_size
  unfold Rd.gp; rw [e]
theorem packet_Parse (s : ByteArray) (hs : s.size < 4611686018427387904) : Fv Try.prog 12 [.str s] (.tup [.agg (parseP s).1.g, .int .i64 (parseP s).2]) := by
  have n0 := crc_Open s hs
  unfold parseP
  generalize openB s = o at *
  obtain ⟨t, b⟩ := o
  simp only at n0 ⊢
  cases b
  · rw [if_pos rfl]; exact parse_sum s t n0
  rw [if_neg (by simp)]
  have n1 := pr_Open t
  rw [← rd_gp0] at n1
  have hr : (⟨t, 0, 0⟩ : Rd).ok := Nat.zero_le _
  generalize (⟨t, 0, 0⟩ : Rd) = r at *
  have key : Fv Try.prog 12 [.str s] (outP (rEnd (readP r).1).bad (okP (readP r).2) (readP r).2) := by
    have h1 := rNum_ok r 1 hr
    have h2 := rNum_ok _ 1 h1
    have h3 := rNum_ok _ 1 h2
    have h4 := rKey_ok _ h3
    have m1 := pr_Num r 1 hr
    have m2 := pr_Num _ 1 h1
    have m3 := pr_Num _ 1 h2
    have m4 := ident_ReadKey _ h3
    unfold readP
    simp only
    by_cases k1 : (rNum r 1).2 = 1
    · rw [if_pos k1]
      have h5 := rNum_ok _ 1 h4
      have h6 := rNum_ok _ 7 h5
      have h7 := rText_ok _ h6
      have h8 := rNum_ok _ 7 h7
      have h9 := rNum_ok _ 1 h8
      have h10 := rId_ok _ h9
      have h11 := rKey_ok _ h10
      exact parse_1 s t _ _ _ _ _ _ _ _ _ _ _ n0 n1 m1 m2 m3 m4 _ _ _ _ _ _ _ _ _ _ _ _ _ _ k1 (pr_Num _ 1 h4) (pr_Num _ 7 h5) (pr_Text _ h6) (pr_Num _ 7 h7) (pr_Num _ 1 h8) (ident_Read _ h9) (ident_ReadKey _ h10) (pr_End _ h11) (packet_Right _)
    rw [if_neg k1]
    by_cases k2 : (rNum r 1).2 = 2
    · rw [if_pos k2]
      have h5 := rNum_ok _ 1 h4
      have h6 := rNum_ok _ 4 h5
      have h7 := rFlag_ok _ h6
      exact parse_2 s t _ _ _ _ _ _ _ _ _ _ _ n0 n1 m1 m2 m3 m4 _ _ _ _ _ _ k2 (pr_Num _ 1 h4) (pr_Num _ 4 h5) (pr_Flag _ h6) (pr_End _ h7) (packet_Right _)
    rw [if_neg k2]
    by_cases k4 : (rNum r 1).2 = 4
    · rw [if_pos k4]
      have h5 := rNum_ok _ 7 h4
      exact parse_4 s t _ _ _ _ _ _ _ _ _ _ _ n0 n1 m1 m2 m3 m4 _ _ k4 (pr_Num _ 7 h4) (pr_End _ h5) (packet_Right _)
    rw [if_neg k4]
    by_cases k5 : (rNum r 1).2 = 5
    · rw [if_pos k5]
      have h5 := rNum_ok _ 7 h4
      have hb : 0 ≤ (rNum (rKey (rNum (rNum (rNum r 1).1 1).1 1).1).1 7).2 ∧ (rNum (rKey (rNum (rNum (rNum r 1).1 1).1 1).1).1 7).2 < 72057594037927936 := by
        generalize (rKey (rNum (rNum (rNum r 1).1 1).1 1).1).1 = q
        unfold rNum
        rw [if_neg (by omega)]
        (repeat' split) <;> first
          | (show (0 : Int) ≤ 0 ∧ (0 : Int) < _; omega)
          | exact numOf_bd _ _ 7
      have hw : IntKind.i64.wrap ((rNum (rKey (rNum (rNum (rNum r 1).1 1).1 1).1).1 7).2 - 1) = (rNum (rKey (rNum (rNum (rNum r 1).1 1).1 1).1).1 7).2 - 1 := wrap_i64 ⟨by omega, by omega⟩
      have := parse_5 s t _ _ _ _ _ _ _ _ _ _ _ n0 n1 m1 m2 m3 m4 _ _ k5 (pr_Num _ 7 h4) (pr_End _ h5) (packet_Right _)
      rw [hw] at this
      exact this
    rw [if_neg k5]
    by_cases k3 : (rNum r 1).2 = 3
    · rw [if_pos k3]
      exact parse_3 s t _ _ _ _ _ _ _ _ _ _ _ n0 n1 m1 m2 m3 m4 k3 (pr_End _ h4) (packet_Right _)
    rw [if_neg k3]
    exact parse_0 s t _ _ _ _ _ _ _ _ _ _ _ n0 n1 m1 m2 m3 m4 _ ⟨k1, k2, k3, k4, k5⟩ (pr_Fail _ 9) (pr_End _ (rFail_ok _ _ h4)) (packet_Right _)
  by_cases e : (rEnd (readP r).1).bad = 0
  · rw [if_neg (by simp [e])]
    unfold outP at key
    have eb : ((rEnd (readP r).1).bad != 0) = false := by simp [e]
    rw [eb] at key
    cases ho : okP (readP r).2 with
    | true => rw [ho] at key; rw [if_neg (by simp)]; exact key
    | false => rw [ho] at key; rw [if_pos rfl]; exact key
  · rw [if_pos e]
    unfold outP at key
    have eb : ((rEnd (readP r).1).bad != 0) = true := by simp [e]
    rw [eb] at key
    exact key
end Go.Proofs.Ytfpincfmcjiokaa.Cn
