
/- Contracts: the packet of any bytes. No condition but lengths. -/
import Derived.Test.YtfpincfmcjiokaaCn80
namespace Go.Proofs.Ytfpincfmcjiokaa.Cn
open Go Go.Proofs Go.Proofs.Ytfpincfmcjiokaa.Av Go.Proofs.Ytfpincfmcjiokaa.Sp
set_option linter.unusedVariables false
set_option linter.unusedSimpArgs false
set_option linter.unusedSectionVars false
set_option maxRecDepth 100000
attribute [local irreducible] Fv Fp

theorem parse_sum (s t : ByteArray) (n0 : Fv Try.prog 33 [.str s] (.tup [.str t, .bool false])) : Fv Try.prog 12 [.str s] (.tup [.agg zP.g, .int .i64 4]) := by
  refine Fv.of_awp Try.func12 rfl (by kernel_rfl) rfl (Nat.le_of_ble_eq_true rfl) ?_
  repeat' (conv => whnf
           first
           | (refine And.intro (by kernel_rfl) ?_)
           | (refine And.intro ⟨by kernel_rfl, by kernel_rfl⟩ ?_)
           | (refine Or.inl ⟨_, n0, ?_⟩)
           | (refine ⟨_, n0, ?_⟩)
           | (refine cond_f ?_ ?_)
           | (refine ⟨_, ⟨by decide, rfl⟩, ?_⟩)
           | (refine cond_i (fun h => ?_) (fun h => ?_)))
  all_goals (conv => whnf)
  all_goals rfl
section
variable (s t : ByteArray) (r a b c k e : Rd) (x y z : Int) (key : Key) (ok : Bool) (n0 : Fv Try.prog 33 [.str s] (.tup [.str t, .bool true]))
  (n1 : Fp Try.prog 34 [.str t] [] [] (.ptr 0 0, [some r.gp], []))
  (m1 : Fp Try.prog 35 [.ptr 0 0, .int .i64 1] [r.gp] [] (.int .i64 x, [some a.gp], []))
  (m2 : Fp Try.prog 35 [.ptr 0 0, .int .i64 1] [a.gp] [] (.int .i64 y, [some b.gp], []))
  (m3 : Fp Try.prog 35 [.ptr 0 0, .int .i64 1] [b.gp] [] (.int .i64 z, [some c.gp], []))
  (m4 : Fp Try.prog 36 [.ptr 0 0] [c.gp] [] (.agg key.g, [some k.gp], []))
def outP (e : Int) (ok : Bool) (p : Packet) : G := .tup [.agg (bif e != 0 then zP.g else bif ok then p.g else zP.g), .int .i64 (bif e != 0 then e else bif ok then 0 else 2)]
include n0 n1 m1 m2 m3 m4
set_option maxHeartbeats 4000000 in
theorem parse_1 (h w u g i j q : Rd) (a1 a2 a4 a5 : Int) (a3 : ByteArray) (a6 : Sp.Id) (a7 : Key) (hk : x = 1)
    (m5 : Fp Try.prog 35 [.ptr 0 0, .int .i64 1] [k.gp] [] (.int .i64 a1, [some h.gp], []))
    (m6 : Fp Try.prog 35 [.ptr 0 0, .int .i64 7] [h.gp] [] (.int .i64 a2, [some w.gp], []))
    (m7 : Fp Try.prog 37 [.ptr 0 0] [w.gp] [] (.str a3, [some u.gp], []))
    (m8 : Fp Try.prog 35 [.ptr 0 0, .int .i64 7] [u.gp] [] (.int .i64 a4, [some g.gp], []))
    (m9 : Fp Try.prog 35 [.ptr 0 0, .int .i64 1] [g.gp] [] (.int .i64 a5, [some i.gp], []))
    (m10 : Fp Try.prog 38 [.ptr 0 0] [i.gp] [] (.agg a6.g, [some j.gp], []))
    (m11 : Fp Try.prog 36 [.ptr 0 0] [j.gp] [] (.agg a7.g, [some q.gp], []))
    (m12 : Fp Try.prog 41 [.ptr 0 0] [q.gp] [] (.int .i64 e.bad, [some e.gp], []))
    (n2 : Fv Try.prog 8 [.agg (⟨x, y, z, key, a1, a2, a3, a4, a5, a6, a7, 0, 0, false, 0⟩ : Packet).g] (.bool ok)) :
    Fv Try.prog 12 [.str s] (outP e.bad ok ⟨x, y, z, key, a1, a2, a3, a4, a5, a6, a7, 0, 0, false, 0⟩) := by
  have b1 : (x == 1) = true := by simp [hk]
  unfold outP
  generalize hb : (e.bad != 0) = eb
  cases eb
  · cases ok
    · refine Fv.of_awp Try.func12 rfl (by kernel_rfl) rfl (Nat.le_of_ble_eq_true rfl) ?_
      repeat' (conv => whnf
               first
               | (refine And.intro (by kernel_rfl) ?_)
               | (refine And.intro ⟨by kernel_rfl, by kernel_rfl⟩ ?_)
               | (refine Or.inl ⟨_, n0, ?_⟩)
               | (refine ⟨_, n0, ?_⟩)
               | (refine Or.inr ⟨_, n1, ?_⟩)
               | (refine Or.inr ⟨_, m1, ?_⟩)
               | (refine Or.inr ⟨_, m2, ?_⟩)
               | (refine Or.inr ⟨_, m3, ?_⟩)
               | (refine Or.inr ⟨_, m4, ?_⟩)
               | (refine cond_1 b1 ?_)
               | (refine Or.inr ⟨_, m5, ?_⟩)
               | (refine Or.inr ⟨_, m6, ?_⟩)
               | (refine Or.inr ⟨_, m7, ?_⟩)
               | (refine Or.inr ⟨_, m8, ?_⟩)
               | (refine Or.inr ⟨_, m9, ?_⟩)
               | (refine Or.inr ⟨_, m10, ?_⟩)
               | (refine Or.inr ⟨_, m11, ?_⟩)
               | (refine Or.inr ⟨_, m12, ?_⟩)
               | (refine cond_0 hb ?_)
               | (refine Or.inl ⟨_, n2, ?_⟩)
               | (refine ⟨_, n2, ?_⟩)
               | (refine cond_f ?_ ?_)
               | (refine ⟨_, ⟨by decide, rfl⟩, ?_⟩)
               | (refine cond_i (fun h => ?_) (fun h => ?_)))
      all_goals (conv => whnf)
      all_goals rfl
    · refine Fv.of_awp Try.func12 rfl (by kernel_rfl) rfl (Nat.le_of_ble_eq_true rfl) ?_
      repeat' (conv => whnf
               first
               | (refine And.intro (by kernel_rfl) ?_)
               | (refine And.intro ⟨by kernel_rfl, by kernel_rfl⟩ ?_)
               | (refine Or.inl ⟨_, n0, ?_⟩)
               | (refine ⟨_, n0, ?_⟩)
               | (refine Or.inr ⟨_, n1, ?_⟩)
               | (refine Or.inr ⟨_, m1, ?_⟩)
               | (refine Or.inr ⟨_, m2, ?_⟩)
               | (refine Or.inr ⟨_, m3, ?_⟩)
               | (refine Or.inr ⟨_, m4, ?_⟩)
               | (refine cond_1 b1 ?_)
               | (refine Or.inr ⟨_, m5, ?_⟩)
               | (refine Or.inr ⟨_, m6, ?_⟩)
               | (refine Or.inr ⟨_, m7, ?_⟩)
               | (refine Or.inr ⟨_, m8, ?_⟩)
               | (refine Or.inr ⟨_, m9, ?_⟩)
               | (refine Or.inr ⟨_, m10, ?_⟩)
               | (refine Or.inr ⟨_, m11, ?_⟩)
               | (refine Or.inr ⟨_, m12, ?_⟩)
               | (refine cond_0 hb ?_)
               | (refine Or.inl ⟨_, n2, ?_⟩)
               | (refine ⟨_, n2, ?_⟩)
               | (refine cond_f ?_ ?_)
               | (refine ⟨_, ⟨by decide, rfl⟩, ?_⟩)
               | (refine cond_i (fun h => ?_) (fun h => ?_)))
      all_goals (conv => whnf)
      all_goals rfl
  · refine Fv.of_awp Try.func12 rfl (by kernel_rfl) rfl (Nat.le_of_ble_eq_true rfl) ?_
    repeat' (conv => whnf
             first
             | (refine And.intro (by kernel_rfl) ?_)
             | (refine And.intro ⟨by kernel_rfl, by kernel_rfl⟩ ?_)
             | (refine Or.inl ⟨_, n0, ?_⟩)
             | (refine ⟨_, n0, ?_⟩)
             | (refine Or.inr ⟨_, n1, ?_⟩)
             | (refine Or.inr ⟨_, m1, ?_⟩)
             | (refine Or.inr ⟨_, m2, ?_⟩)
             | (refine Or.inr ⟨_, m3, ?_⟩)
             | (refine Or.inr ⟨_, m4, ?_⟩)
             | (refine cond_1 b1 ?_)
             | (refine Or.inr ⟨_, m5, ?_⟩)
             | (refine Or.inr ⟨_, m6, ?_⟩)
             | (refine Or.inr ⟨_, m7, ?_⟩)
             | (refine Or.inr ⟨_, m8, ?_⟩)
             | (refine Or.inr ⟨_, m9, ?_⟩)
             | (refine Or.inr ⟨_, m10, ?_⟩)
             | (refine Or.inr ⟨_, m11, ?_⟩)
             | (refine Or.inr ⟨_, m12, ?_⟩)
             | (refine cond_1 hb ?_)
             | (refine cond_f ?_ ?_)
             | (refine ⟨_, ⟨by decide, rfl⟩, ?_⟩)
             | (refine cond_i (fun h => ?_) (fun h => ?_)))
    all_goals (conv => whnf)
    all_goals rfl
end
end Go.Proofs.Ytfpincfmcjiokaa.Cn
