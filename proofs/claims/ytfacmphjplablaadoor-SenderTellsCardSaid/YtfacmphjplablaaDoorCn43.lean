
/- Contracts: a span's text. No condition but that numbers are of 64 bits. -/
import Derived.Test.YtfacmphjplablaaDoorCn42
import Derived.Test.YtfacmphjplablaaDoorSp12
namespace Go.Proofs.YtfacmphjplablaaDoor.Cn
open Go Go.Proofs Go.Proofs.YtfacmphjplablaaDoor.Av Go.Proofs.YtfacmphjplablaaDoor.Sp
set_option linter.unusedVariables false
set_option linter.unusedSimpArgs false
set_option maxRecDepth 100000
attribute [local irreducible] Fv Fp

theorem itoa_pos {n : Int} (h : 0 ≤ n) : Lib.itoa n = Lib.decDigits n.toNat := by unfold Lib.itoa; rw [if_neg (by omega)]
theorem txt_app {n : Int} (c : UInt8) : txt n c = strL (Lib.decDigits n.toNat) ++ strL [c] := by unfold txt; rw [strL_app]
theorem qq {x : Int} {k : Int} (h : 0 ≤ x ∧ x ≤ 1125899906842624) (hk : 0 < k) : IntKind.i64.wrap (x.tdiv k) = x / k ∧ 0 ≤ x / k ∧ x / k ≤ 1125899906842624 := by
  have h1 : 0 ≤ x / k := Int.ediv_nonneg h.1 (by omega)
  have h2 : x / k ≤ x := Int.ediv_le_self _ h.1
  exact ⟨by rw [Int.tdiv_eq_ediv_of_nonneg h.1, wrap_i64 (by omega)], h1, by omega⟩
section
variable (t c : Int) (n1 : Fv Tryd.prog 42 [.int .i64 t] (.int .i64 c)) (q : Int) (x : ByteArray) (n2 : Fv Tryd.prog 114 [.int .i64 q] (.str x)) (hz : ((x.size + 1 : Nat) : Int) ≤ 9223372036854775807)
include n1 n2 hz
theorem enc_u (e : IntKind.i64.wrap (c.tdiv 1) = q) (h : q ≤ 99999999) : Fv Tryd.prog 75 [.int .i64 t] (.str (x ++ strL [117])) := by
  have u1 : Fv Tryd.prog 113 [.int .u8 117] (.int .i64 1) := timeout_unit 117
  have z : ((x.size + (⟨[(117 : UInt8)].toArray⟩ : ByteArray).size : Nat) : Int) ≤ 9223372036854775807 := hz
  subst e
  have b1 : decide (IntKind.i64.wrap (c.tdiv 1) ≤ 99999999) = true := decide_eq_true h
  refine Fv.of_awp Tryd.func75 rfl (by kernel_rfl) rfl (Nat.le_of_ble_eq_true rfl) ?_
  repeat' (conv => whnf
           first
           | (refine And.intro (by kernel_rfl) ?_)
           | (refine And.intro ⟨by kernel_rfl, by kernel_rfl⟩ ?_)
           | (refine Or.inl ⟨_, n1, ?_⟩)
           | (refine ⟨_, n1, ?_⟩)
           | (refine cond_f ?_ ?_)
           | (refine ⟨_, ⟨by decide, rfl⟩, ?_⟩)
           | (refine cond_i (fun h => ?_) (fun h => ?_)))
  all_goals (conv => whnf)
  refine Has.ofN 5 ?_
  repeat' (conv => whnf
           first
           | (refine And.intro (by kernel_rfl) ?_)
           | (refine And.intro ⟨by kernel_rfl, by kernel_rfl⟩ ?_)
           | (refine ⟨_, ⟨by decide, rfl⟩, ?_⟩)
           | (refine Or.inl ⟨_, u1, ?_⟩)
           | (refine ⟨_, u1, ?_⟩)
           | (refine cond_1 b1 ?_)
           | (refine Or.inl ⟨_, n2, ?_⟩)
           | (refine ⟨_, n2, ?_⟩)
           | (refine ⟨[117], rfl, ?_⟩)
           | (refine ⟨z, ?_⟩)
           | (refine cond_f ?_ ?_)
           | (refine ⟨_, ⟨by decide, rfl⟩, ?_⟩)
           | (refine cond_i (fun h => ?_) (fun h => ?_)))
  all_goals (conv => whnf)
  all_goals rfl
variable (h1 : ¬ IntKind.i64.wrap (c.tdiv 1) ≤ 99999999)
include h1
theorem enc_m (e : IntKind.i64.wrap (c.tdiv 1000) = q) (h : q ≤ 99999999) : Fv Tryd.prog 75 [.int .i64 t] (.str (x ++ strL [109])) := by
  have u1 : Fv Tryd.prog 113 [.int .u8 117] (.int .i64 1) := timeout_unit 117
  have u2 : Fv Tryd.prog 113 [.int .u8 109] (.int .i64 1000) := timeout_unit 109
  have z : ((x.size + (⟨[(109 : UInt8)].toArray⟩ : ByteArray).size : Nat) : Int) ≤ 9223372036854775807 := hz
  subst e
  have b1 : decide (IntKind.i64.wrap (c.tdiv 1) ≤ 99999999) = false := decide_eq_false h1
  have b2 : decide (IntKind.i64.wrap (c.tdiv 1000) ≤ 99999999) = true := decide_eq_true h
  refine Fv.of_awp Tryd.func75 rfl (by kernel_rfl) rfl (Nat.le_of_ble_eq_true rfl) ?_
  repeat' (conv => whnf
           first
           | (refine And.intro (by kernel_rfl) ?_)
           | (refine And.intro ⟨by kernel_rfl, by kernel_rfl⟩ ?_)
           | (refine Or.inl ⟨_, n1, ?_⟩)
           | (refine ⟨_, n1, ?_⟩)
           | (refine cond_f ?_ ?_)
           | (refine ⟨_, ⟨by decide, rfl⟩, ?_⟩)
           | (refine cond_i (fun h => ?_) (fun h => ?_)))
  all_goals (conv => whnf)
  refine Has.ofN 5 ?_
  repeat' (conv => whnf
           first
           | (refine And.intro (by kernel_rfl) ?_)
           | (refine And.intro ⟨by kernel_rfl, by kernel_rfl⟩ ?_)
           | (refine ⟨_, ⟨by decide, rfl⟩, ?_⟩)
           | (refine Or.inl ⟨_, u1, ?_⟩)
           | (refine ⟨_, u1, ?_⟩)
           | (refine cond_0 b1 ?_)
           | (refine Or.inl ⟨_, u2, ?_⟩)
           | (refine ⟨_, u2, ?_⟩)
           | (refine cond_1 b2 ?_)
           | (refine Or.inl ⟨_, n2, ?_⟩)
           | (refine ⟨_, n2, ?_⟩)
           | (refine ⟨[109], rfl, ?_⟩)
           | (refine ⟨z, ?_⟩)
           | (refine cond_f ?_ ?_)
           | (refine ⟨_, ⟨by decide, rfl⟩, ?_⟩)
           | (refine cond_i (fun h => ?_) (fun h => ?_)))
  all_goals (conv => whnf)
  all_goals rfl
variable (h2 : ¬ IntKind.i64.wrap (c.tdiv 1000) ≤ 99999999)
include h2
theorem enc_s (e : IntKind.i64.wrap (c.tdiv 1000000) = q) (h : q ≤ 99999999) : Fv Tryd.prog 75 [.int .i64 t] (.str (x ++ strL [83])) := by
  have u1 : Fv Tryd.prog 113 [.int .u8 117] (.int .i64 1) := timeout_unit 117
  have u2 : Fv Tryd.prog 113 [.int .u8 109] (.int .i64 1000) := timeout_unit 109
  have u3 : Fv Tryd.prog 113 [.int .u8 83] (.int .i64 1000000) := timeout_unit 83
  have z : ((x.size + (⟨[(83 : UInt8)].toArray⟩ : ByteArray).size : Nat) : Int) ≤ 9223372036854775807 := hz
  subst e
  have b1 : decide (IntKind.i64.wrap (c.tdiv 1) ≤ 99999999) = false := decide_eq_false h1
  have b2 : decide (IntKind.i64.wrap (c.tdiv 1000) ≤ 99999999) = false := decide_eq_false h2
  have b3 : decide (IntKind.i64.wrap (c.tdiv 1000000) ≤ 99999999) = true := decide_eq_true h
  refine Fv.of_awp Tryd.func75 rfl (by kernel_rfl) rfl (Nat.le_of_ble_eq_true rfl) ?_
  repeat' (conv => whnf
           first
           | (refine And.intro (by kernel_rfl) ?_)
           | (refine And.intro ⟨by kernel_rfl, by kernel_rfl⟩ ?_)
           | (refine Or.inl ⟨_, n1, ?_⟩)
           | (refine ⟨_, n1, ?_⟩)
           | (refine cond_f ?_ ?_)
           | (refine ⟨_, ⟨by decide, rfl⟩, ?_⟩)
           | (refine cond_i (fun h => ?_) (fun h => ?_)))
  all_goals (conv => whnf)
  refine Has.ofN 5 ?_
  repeat' (conv => whnf
           first
           | (refine And.intro (by kernel_rfl) ?_)
           | (refine And.intro ⟨by kernel_rfl, by kernel_rfl⟩ ?_)
           | (refine ⟨_, ⟨by decide, rfl⟩, ?_⟩)
           | (refine Or.inl ⟨_, u1, ?_⟩)
           | (refine ⟨_, u1, ?_⟩)
           | (refine cond_0 b1 ?_)
           | (refine Or.inl ⟨_, u2, ?_⟩)
           | (refine ⟨_, u2, ?_⟩)
           | (refine cond_0 b2 ?_)
           | (refine Or.inl ⟨_, u3, ?_⟩)
           | (refine ⟨_, u3, ?_⟩)
           | (refine cond_1 b3 ?_)
           | (refine Or.inl ⟨_, n2, ?_⟩)
           | (refine ⟨_, n2, ?_⟩)
           | (refine ⟨[83], rfl, ?_⟩)
           | (refine ⟨z, ?_⟩)
           | (refine cond_f ?_ ?_)
           | (refine ⟨_, ⟨by decide, rfl⟩, ?_⟩)
           | (refine cond_i (fun h => ?_) (fun h => ?_)))
  all_goals (conv => whnf)
  all_goals rfl
variable (h3 : ¬ IntKind.i64.wrap (c.tdiv 1000000) ≤ 99999999)
include h3
theorem enc_M (e : IntKind.i64.wrap (c.tdiv 60000000) = q) (h : q ≤ 99999999) : Fv Tryd.prog 75 [.int .i64 t] (.str (x ++ strL [77])) := by
  have u1 : Fv Tryd.prog 113 [.int .u8 117] (.int .i64 1) := timeout_unit 117
  have u2 : Fv Tryd.prog 113 [.int .u8 109] (.int .i64 1000) := timeout_unit 109
  have u3 : Fv Tryd.prog 113 [.int .u8 83] (.int .i64 1000000) := timeout_unit 83
  have u4 : Fv Tryd.prog 113 [.int .u8 77] (.int .i64 60000000) := timeout_unit 77
  have z : ((x.size + (⟨[(77 : UInt8)].toArray⟩ : ByteArray).size : Nat) : Int) ≤ 9223372036854775807 := hz
  subst e
  have b1 : decide (IntKind.i64.wrap (c.tdiv 1) ≤ 99999999) = false := decide_eq_false h1
  have b2 : decide (IntKind.i64.wrap (c.tdiv 1000) ≤ 99999999) = false := decide_eq_false h2
  have b3 : decide (IntKind.i64.wrap (c.tdiv 1000000) ≤ 99999999) = false := decide_eq_false h3
  have b4 : decide (IntKind.i64.wrap (c.tdiv 60000000) ≤ 99999999) = true := decide_eq_true h
  refine Fv.of_awp Tryd.func75 rfl (by kernel_rfl) rfl (Nat.le_of_ble_eq_true rfl) ?_
  repeat' (conv => whnf
           first
           | (refine And.intro (by kernel_rfl) ?_)
           | (refine And.intro ⟨by kernel_rfl, by kernel_rfl⟩ ?_)
           | (refine Or.inl ⟨_, n1, ?_⟩)
           | (refine ⟨_, n1, ?_⟩)
           | (refine cond_f ?_ ?_)
           | (refine ⟨_, ⟨by decide, rfl⟩, ?_⟩)
           | (refine cond_i (fun h => ?_) (fun h => ?_)))
  all_goals (conv => whnf)
  refine Has.ofN 5 ?_
  repeat' (conv => whnf
           first
           | (refine And.intro (by kernel_rfl) ?_)
           | (refine And.intro ⟨by kernel_rfl, by kernel_rfl⟩ ?_)
           | (refine ⟨_, ⟨by decide, rfl⟩, ?_⟩)
           | (refine Or.inl ⟨_, u1, ?_⟩)
           | (refine ⟨_, u1, ?_⟩)
           | (refine cond_0 b1 ?_)
           | (refine Or.inl ⟨_, u2, ?_⟩)
           | (refine ⟨_, u2, ?_⟩)
           | (refine cond_0 b2 ?_)
           | (refine Or.inl ⟨_, u3, ?_⟩)
           | (refine ⟨_, u3, ?_⟩)
           | (refine cond_0 b3 ?_)
           | (refine Or.inl ⟨_, u4, ?_⟩)
           | (refine ⟨_, u4, ?_⟩)
           | (refine cond_1 b4 ?_)
           | (refine Or.inl ⟨_, n2, ?_⟩)
           | (refine ⟨_, n2, ?_⟩)
           | (refine ⟨[77], rfl, ?_⟩)
           | (refine ⟨z, ?_⟩)
           | (refine cond_f ?_ ?_)
           | (refine ⟨_, ⟨by decide, rfl⟩, ?_⟩)
           | (refine cond_i (fun h => ?_) (fun h => ?_)))
  all_goals (conv => whnf)
  all_goals rfl
variable (h4 : ¬ IntKind.i64.wrap (c.tdiv 60000000) ≤ 99999999)
include h4
theorem enc_H (e : IntKind.i64.wrap (c.tdiv 3600000000) = q) : Fv Tryd.prog 75 [.int .i64 t] (.str (x ++ ⟨#[72]⟩)) := by
  have u1 : Fv Tryd.prog 113 [.int .u8 117] (.int .i64 1) := timeout_unit 117
  have u2 : Fv Tryd.prog 113 [.int .u8 109] (.int .i64 1000) := timeout_unit 109
  have u3 : Fv Tryd.prog 113 [.int .u8 83] (.int .i64 1000000) := timeout_unit 83
  have u4 : Fv Tryd.prog 113 [.int .u8 77] (.int .i64 60000000) := timeout_unit 77
  have u5 : Fv Tryd.prog 113 [.int .u8 72] (.int .i64 3600000000) := timeout_unit 72
  have z : ((x.size + (⟨#[72]⟩ : ByteArray).size : Nat) : Int) ≤ 9223372036854775807 := hz
  subst e
  have b1 : decide (IntKind.i64.wrap (c.tdiv 1) ≤ 99999999) = false := decide_eq_false h1
  have b2 : decide (IntKind.i64.wrap (c.tdiv 1000) ≤ 99999999) = false := decide_eq_false h2
  have b3 : decide (IntKind.i64.wrap (c.tdiv 1000000) ≤ 99999999) = false := decide_eq_false h3
  have b4 : decide (IntKind.i64.wrap (c.tdiv 60000000) ≤ 99999999) = false := decide_eq_false h4
  refine Fv.of_awp Tryd.func75 rfl (by kernel_rfl) rfl (Nat.le_of_ble_eq_true rfl) ?_
  repeat' (conv => whnf
           first
           | (refine And.intro (by kernel_rfl) ?_)
           | (refine And.intro ⟨by kernel_rfl, by kernel_rfl⟩ ?_)
           | (refine Or.inl ⟨_, n1, ?_⟩)
           | (refine ⟨_, n1, ?_⟩)
           | (refine cond_f ?_ ?_)
           | (refine ⟨_, ⟨by decide, rfl⟩, ?_⟩)
           | (refine cond_i (fun h => ?_) (fun h => ?_)))
  all_goals (conv => whnf)
  refine Has.ofN 5 ?_
  repeat' (conv => whnf
           first
           | (refine And.intro (by kernel_rfl) ?_)
           | (refine And.intro ⟨by kernel_rfl, by kernel_rfl⟩ ?_)
           | (refine ⟨_, ⟨by decide, rfl⟩, ?_⟩)
           | (refine Or.inl ⟨_, u1, ?_⟩)
           | (refine ⟨_, u1, ?_⟩)
           | (refine cond_0 b1 ?_)
           | (refine Or.inl ⟨_, u2, ?_⟩)
           | (refine ⟨_, u2, ?_⟩)
           | (refine cond_0 b2 ?_)
           | (refine Or.inl ⟨_, u3, ?_⟩)
           | (refine ⟨_, u3, ?_⟩)
           | (refine cond_0 b3 ?_)
           | (refine Or.inl ⟨_, u4, ?_⟩)
           | (refine ⟨_, u4, ?_⟩)
           | (refine cond_0 b4 ?_)
           | (refine Or.inl ⟨_, u5, ?_⟩)
           | (refine ⟨_, u5, ?_⟩)
           | (refine Or.inl ⟨_, n2, ?_⟩)
           | (refine ⟨_, n2, ?_⟩)
           | (refine ⟨z, ?_⟩)
           | (refine cond_f ?_ ?_)
           | (refine ⟨_, ⟨by decide, rfl⟩, ?_⟩)
           | (refine cond_i (fun h => ?_) (fun h => ?_)))
  all_goals (conv => whnf)
  all_goals rfl
end
theorem timeout_Encode (t : Int) : Fv Tryd.prog 75 [.int .i64 t] (.str (enc t)) := by
  have hc := clamp_bd t
  have n1 := ticks_Clamp t
  have it : ∀ q : Int, 0 ≤ q ∧ q ≤ 1125899906842624 → Fv Tryd.prog 114 [.int .i64 q] (.str (strL (Lib.decDigits q.toNat))) := fun q hq => by
    have := strconv_Itoa q (by omega)
    rw [itoa_pos hq.1] at this
    exact this
  have sz : ∀ q : Int, 0 ≤ q ∧ q ≤ 1125899906842624 → (((strL (Lib.decDigits q.toNat)).size + 1 : Nat) : Int) ≤ 9223372036854775807 := fun q hq => by
    rw [strL_size]; have := dec_len q.toNat; omega
  obtain ⟨a1, a2, a3⟩ := qq (k := 1) hc (by omega)
  obtain ⟨m1, m2, m3⟩ := qq (k := 1000) hc (by omega)
  obtain ⟨s1, s2, s3⟩ := qq (k := 1000000) hc (by omega)
  obtain ⟨M1, M2, M3⟩ := qq (k := 60000000) hc (by omega)
  obtain ⟨H1, H2, H3⟩ := qq (k := 3600000000) hc (by omega)
  rw [Int.ediv_one] at a1
  unfold enc
  split
  · rename_i h
    rw [txt_app]
    exact enc_u t _ n1 _ _ (it _ hc) (sz _ hc) a1 h
  · rename_i h
    have h1 : ¬ IntKind.i64.wrap ((clamp t).tdiv 1) ≤ 99999999 := by rw [a1]; exact h
    split
    · rename_i h
      rw [txt_app]
      exact enc_m t _ n1 _ _ (it _ ⟨m2, m3⟩) (sz _ ⟨m2, m3⟩) h1 m1 h
    · rename_i h
      have h2 : ¬ IntKind.i64.wrap ((clamp t).tdiv 1000) ≤ 99999999 := by rw [m1]; exact h
      split
      · rename_i h
        rw [txt_app]
        exact enc_s t _ n1 _ _ (it _ ⟨s2, s3⟩) (sz _ ⟨s2, s3⟩) h1 h2 s1 h
      · rename_i h
        have h3 : ¬ IntKind.i64.wrap ((clamp t).tdiv 1000000) ≤ 99999999 := by rw [s1]; exact h
        split
        · rename_i h
          rw [txt_app]
          exact enc_M t _ n1 _ _ (it _ ⟨M2, M3⟩) (sz _ ⟨M2, M3⟩) h1 h2 h3 M1 h
        · rename_i h
          have h4 : ¬ IntKind.i64.wrap ((clamp t).tdiv 60000000) ≤ 99999999 := by rw [M1]; exact h
          rw [txt_app]
          exact enc_H t _ n1 _ _ (it _ ⟨H2, H3⟩) (sz _ ⟨H2, H3⟩) h1 h2 h3 h4 H1
end Go.Proofs.YtfacmphjplablaaDoor.Cn
