
/- Contracts: the document's text of a span. No condition. -/
import Derived.Test.YtfacmphjplablaaDoorCn43
namespace Go.Proofs.YtfacmphjplablaaDoor.Cn
open Go Go.Proofs Go.Proofs.YtfacmphjplablaaDoor.Av Go.Proofs.YtfacmphjplablaaDoor.Sp
set_option linter.unusedVariables false
set_option linter.unusedSimpArgs false
set_option maxRecDepth 100000
attribute [local irreducible] Fv Fp

abbrev uns : ByteArray := ⟨#[117, 109, 83, 77, 72]⟩
section
variable (t c : Int) (n1 : Fv Tryd.prog 16 [.int .i64 t] (.int .i64 c)) (q : Int) (x : ByteArray) (n2 : Fv Tryd.prog 78 [.int .i64 q] (.str x)) (hz : ((x.size + 1 : Nat) : Int) ≤ 9223372036854775807)
include n1 n2 hz
theorem renc_u (e : IntKind.i64.wrap (c.tdiv 1) = q) (h : q < 100000000) : Fv Tryd.prog 48 [.int .i64 t] (.str (x ++ strL [117])) := by
  have u1 : Fv Tryd.prog 77 [.int .u8 (byteAt (⟨#[117, 109, 83, 77, 72]⟩ : ByteArray) (Int.toNat 0))] (.int .i64 1) := ref02_Unit 117
  subst e
  have b1 : decide (IntKind.i64.wrap (c.tdiv 1) < 100000000) = true := decide_eq_true h
  have ex : (⟨#[117, 109, 83, 77, 72]⟩ : ByteArray).extract (Int.toNat (0)) (Int.toNat (IntKind.i64.wrap (0 + 1))) = strL [117] := ext_list (by decide +kernel)
  have z : ((x.size + ((⟨#[117, 109, 83, 77, 72]⟩ : ByteArray).extract (Int.toNat (0)) (Int.toNat (IntKind.i64.wrap (0 + 1)))).size : Nat) : Int) ≤ 9223372036854775807 := by rw [ex]; exact hz
  rw [← ex]
  refine Fv.of_awp Tryd.func48 rfl (by kernel_rfl) rfl (Nat.le_of_ble_eq_true rfl) ?_
  repeat' (conv => whnf
           first
           | (refine And.intro (by kernel_rfl) ?_)
           | (refine And.intro ⟨by kernel_rfl, by kernel_rfl⟩ ?_)
           | (refine Or.inl ⟨_, n1, ?_⟩)
           | (refine ⟨_, n1, ?_⟩)
           | (refine cond_f ?_ ?_)
           | (refine ⟨_, ⟨by decide, rfl⟩, ?_⟩)
           | (refine cond_i (fun h => ?_) (fun h => ?_)))
  all_goals (conv => whnf)
  refine Has.ofN 5 ?_
  repeat' (conv => whnf
           first
           | (refine And.intro (by kernel_rfl) ?_)
           | (refine And.intro ⟨by kernel_rfl, by kernel_rfl⟩ ?_)
           | (refine Or.inl ⟨_, u1, ?_⟩)
           | (refine ⟨_, u1, ?_⟩)
           | (refine cond_1 b1 ?_)
           | (refine Or.inl ⟨_, n2, ?_⟩)
           | (refine ⟨_, n2, ?_⟩)
           | (refine ⟨⟨by decide +kernel, by decide +kernel, by decide +kernel⟩, ?_⟩)
           | (refine ⟨⟨by decide +kernel, by decide +kernel⟩, ?_⟩)
           | (refine ⟨z, ?_⟩)
           | (refine cond_f ?_ ?_)
           | (refine ⟨_, ⟨by decide, rfl⟩, ?_⟩)
           | (refine cond_i (fun h => ?_) (fun h => ?_)))
  all_goals (conv => whnf)
  all_goals rfl
variable (h1 : ¬ IntKind.i64.wrap (c.tdiv 1) < 100000000)
include h1
theorem renc_m (e : IntKind.i64.wrap (c.tdiv 1000) = q) (h : q < 100000000) : Fv Tryd.prog 48 [.int .i64 t] (.str (x ++ strL [109])) := by
  have u1 : Fv Tryd.prog 77 [.int .u8 (byteAt (⟨#[117, 109, 83, 77, 72]⟩ : ByteArray) (Int.toNat 0))] (.int .i64 1) := ref02_Unit 117
  have b1 : decide (IntKind.i64.wrap (c.tdiv 1) < 100000000) = false := decide_eq_false h1
  have u2 : Fv Tryd.prog 77 [.int .u8 (byteAt (⟨#[117, 109, 83, 77, 72]⟩ : ByteArray) (Int.toNat (IntKind.i64.wrap (0 + 1))))] (.int .i64 1000) := ref02_Unit 109
  subst e
  have b2 : decide (IntKind.i64.wrap (c.tdiv 1000) < 100000000) = true := decide_eq_true h
  have ex : (⟨#[117, 109, 83, 77, 72]⟩ : ByteArray).extract (Int.toNat (IntKind.i64.wrap (0 + 1))) (Int.toNat (IntKind.i64.wrap (IntKind.i64.wrap (0 + 1) + 1))) = strL [109] := ext_list (by decide +kernel)
  have z : ((x.size + ((⟨#[117, 109, 83, 77, 72]⟩ : ByteArray).extract (Int.toNat (IntKind.i64.wrap (0 + 1))) (Int.toNat (IntKind.i64.wrap (IntKind.i64.wrap (0 + 1) + 1)))).size : Nat) : Int) ≤ 9223372036854775807 := by rw [ex]; exact hz
  rw [← ex]
  refine Fv.of_awp Tryd.func48 rfl (by kernel_rfl) rfl (Nat.le_of_ble_eq_true rfl) ?_
  repeat' (conv => whnf
           first
           | (refine And.intro (by kernel_rfl) ?_)
           | (refine And.intro ⟨by kernel_rfl, by kernel_rfl⟩ ?_)
           | (refine Or.inl ⟨_, n1, ?_⟩)
           | (refine ⟨_, n1, ?_⟩)
           | (refine cond_f ?_ ?_)
           | (refine ⟨_, ⟨by decide, rfl⟩, ?_⟩)
           | (refine cond_i (fun h => ?_) (fun h => ?_)))
  all_goals (conv => whnf)
  refine Has.ofN 5 ?_
  repeat' (conv => whnf
           first
           | (refine And.intro (by kernel_rfl) ?_)
           | (refine And.intro ⟨by kernel_rfl, by kernel_rfl⟩ ?_)
           | (refine Or.inl ⟨_, u1, ?_⟩)
           | (refine ⟨_, u1, ?_⟩)
           | (refine cond_0 b1 ?_)
           | (refine Or.inl ⟨_, u2, ?_⟩)
           | (refine ⟨_, u2, ?_⟩)
           | (refine cond_1 b2 ?_)
           | (refine Or.inl ⟨_, n2, ?_⟩)
           | (refine ⟨_, n2, ?_⟩)
           | (refine ⟨⟨by decide +kernel, by decide +kernel, by decide +kernel⟩, ?_⟩)
           | (refine ⟨⟨by decide +kernel, by decide +kernel⟩, ?_⟩)
           | (refine ⟨z, ?_⟩)
           | (refine cond_f ?_ ?_)
           | (refine ⟨_, ⟨by decide, rfl⟩, ?_⟩)
           | (refine cond_i (fun h => ?_) (fun h => ?_)))
  all_goals (conv => whnf)
  all_goals rfl
variable (h2 : ¬ IntKind.i64.wrap (c.tdiv 1000) < 100000000)
include h2
theorem renc_s (e : IntKind.i64.wrap (c.tdiv 1000000) = q) (h : q < 100000000) : Fv Tryd.prog 48 [.int .i64 t] (.str (x ++ strL [83])) := by
  have u1 : Fv Tryd.prog 77 [.int .u8 (byteAt (⟨#[117, 109, 83, 77, 72]⟩ : ByteArray) (Int.toNat 0))] (.int .i64 1) := ref02_Unit 117
  have b1 : decide (IntKind.i64.wrap (c.tdiv 1) < 100000000) = false := decide_eq_false h1
  have u2 : Fv Tryd.prog 77 [.int .u8 (byteAt (⟨#[117, 109, 83, 77, 72]⟩ : ByteArray) (Int.toNat (IntKind.i64.wrap (0 + 1))))] (.int .i64 1000) := ref02_Unit 109
  have b2 : decide (IntKind.i64.wrap (c.tdiv 1000) < 100000000) = false := decide_eq_false h2
  have u3 : Fv Tryd.prog 77 [.int .u8 (byteAt (⟨#[117, 109, 83, 77, 72]⟩ : ByteArray) (Int.toNat (IntKind.i64.wrap (IntKind.i64.wrap (0 + 1) + 1))))] (.int .i64 1000000) := ref02_Unit 83
  subst e
  have b3 : decide (IntKind.i64.wrap (c.tdiv 1000000) < 100000000) = true := decide_eq_true h
  have ex : (⟨#[117, 109, 83, 77, 72]⟩ : ByteArray).extract (Int.toNat (IntKind.i64.wrap (IntKind.i64.wrap (0 + 1) + 1))) (Int.toNat (IntKind.i64.wrap (IntKind.i64.wrap (IntKind.i64.wrap (0 + 1) + 1) + 1))) = strL [83] := ext_list (by decide +kernel)
  have z : ((x.size + ((⟨#[117, 109, 83, 77, 72]⟩ : ByteArray).extract (Int.toNat (IntKind.i64.wrap (IntKind.i64.wrap (0 + 1) + 1))) (Int.toNat (IntKind.i64.wrap (IntKind.i64.wrap (IntKind.i64.wrap (0 + 1) + 1) + 1)))).size : Nat) : Int) ≤ 9223372036854775807 := by rw [ex]; exact hz
  rw [← ex]
  refine Fv.of_awp Tryd.func48 rfl (by kernel_rfl) rfl (Nat.le_of_ble_eq_true rfl) ?_
  repeat' (conv => whnf
           first
           | (refine And.intro (by kernel_rfl) ?_)
           | (refine And.intro ⟨by kernel_rfl, by kernel_rfl⟩ ?_)
           | (refine Or.inl ⟨_, n1, ?_⟩)
           | (refine ⟨_, n1, ?_⟩)
           | (refine cond_f ?_ ?_)
           | (refine ⟨_, ⟨by decide, rfl⟩, ?_⟩)
           | (refine cond_i (fun h => ?_) (fun h => ?_)))
  all_goals (conv => whnf)
  refine Has.ofN 5 ?_
  repeat' (conv => whnf
           first
           | (refine And.intro (by kernel_rfl) ?_)
           | (refine And.intro ⟨by kernel_rfl, by kernel_rfl⟩ ?_)
           | (refine Or.inl ⟨_, u1, ?_⟩)
           | (refine ⟨_, u1, ?_⟩)
           | (refine cond_0 b1 ?_)
           | (refine Or.inl ⟨_, u2, ?_⟩)
           | (refine ⟨_, u2, ?_⟩)
           | (refine cond_0 b2 ?_)
           | (refine Or.inl ⟨_, u3, ?_⟩)
           | (refine ⟨_, u3, ?_⟩)
           | (refine cond_1 b3 ?_)
           | (refine Or.inl ⟨_, n2, ?_⟩)
           | (refine ⟨_, n2, ?_⟩)
           | (refine ⟨⟨by decide +kernel, by decide +kernel, by decide +kernel⟩, ?_⟩)
           | (refine ⟨⟨by decide +kernel, by decide +kernel⟩, ?_⟩)
           | (refine ⟨z, ?_⟩)
           | (refine cond_f ?_ ?_)
           | (refine ⟨_, ⟨by decide, rfl⟩, ?_⟩)
           | (refine cond_i (fun h => ?_) (fun h => ?_)))
  all_goals (conv => whnf)
  all_goals rfl
variable (h3 : ¬ IntKind.i64.wrap (c.tdiv 1000000) < 100000000)
include h3
theorem renc_M (e : IntKind.i64.wrap (c.tdiv 60000000) = q) (h : q < 100000000) : Fv Tryd.prog 48 [.int .i64 t] (.str (x ++ strL [77])) := by
  have u1 : Fv Tryd.prog 77 [.int .u8 (byteAt (⟨#[117, 109, 83, 77, 72]⟩ : ByteArray) (Int.toNat 0))] (.int .i64 1) := ref02_Unit 117
  have b1 : decide (IntKind.i64.wrap (c.tdiv 1) < 100000000) = false := decide_eq_false h1
  have u2 : Fv Tryd.prog 77 [.int .u8 (byteAt (⟨#[117, 109, 83, 77, 72]⟩ : ByteArray) (Int.toNat (IntKind.i64.wrap (0 + 1))))] (.int .i64 1000) := ref02_Unit 109
  have b2 : decide (IntKind.i64.wrap (c.tdiv 1000) < 100000000) = false := decide_eq_false h2
  have u3 : Fv Tryd.prog 77 [.int .u8 (byteAt (⟨#[117, 109, 83, 77, 72]⟩ : ByteArray) (Int.toNat (IntKind.i64.wrap (IntKind.i64.wrap (0 + 1) + 1))))] (.int .i64 1000000) := ref02_Unit 83
  have b3 : decide (IntKind.i64.wrap (c.tdiv 1000000) < 100000000) = false := decide_eq_false h3
  have u4 : Fv Tryd.prog 77 [.int .u8 (byteAt (⟨#[117, 109, 83, 77, 72]⟩ : ByteArray) (Int.toNat (IntKind.i64.wrap (IntKind.i64.wrap (IntKind.i64.wrap (0 + 1) + 1) + 1))))] (.int .i64 60000000) := ref02_Unit 77
  subst e
  have b4 : decide (IntKind.i64.wrap (c.tdiv 60000000) < 100000000) = true := decide_eq_true h
  have ex : (⟨#[117, 109, 83, 77, 72]⟩ : ByteArray).extract (Int.toNat (IntKind.i64.wrap (IntKind.i64.wrap (IntKind.i64.wrap (0 + 1) + 1) + 1))) (Int.toNat (IntKind.i64.wrap (IntKind.i64.wrap (IntKind.i64.wrap (IntKind.i64.wrap (0 + 1) + 1) + 1) + 1))) = strL [77] := ext_list (by decide +kernel)
  have z : ((x.size + ((⟨#[117, 109, 83, 77, 72]⟩ : ByteArray).extract (Int.toNat (IntKind.i64.wrap (IntKind.i64.wrap (IntKind.i64.wrap (0 + 1) + 1) + 1))) (Int.toNat (IntKind.i64.wrap (IntKind.i64.wrap (IntKind.i64.wrap (IntKind.i64.wrap (0 + 1) + 1) + 1) + 1)))).size : Nat) : Int) ≤ 9223372036854775807 := by rw [ex]; exact hz
  rw [← ex]
  refine Fv.of_awp Tryd.func48 rfl (by kernel_rfl) rfl (Nat.le_of_ble_eq_true rfl) ?_
  repeat' (conv => whnf
           first
           | (refine And.intro (by kernel_rfl) ?_)
           | (refine And.intro ⟨by kernel_rfl, by kernel_rfl⟩ ?_)
           | (refine Or.inl ⟨_, n1, ?_⟩)
           | (refine ⟨_, n1, ?_⟩)
           | (refine cond_f ?_ ?_)
           | (refine ⟨_, ⟨by decide, rfl⟩, ?_⟩)
           | (refine cond_i (fun h => ?_) (fun h => ?_)))
  all_goals (conv => whnf)
  refine Has.ofN 5 ?_
  repeat' (conv => whnf
           first
           | (refine And.intro (by kernel_rfl) ?_)
           | (refine And.intro ⟨by kernel_rfl, by kernel_rfl⟩ ?_)
           | (refine Or.inl ⟨_, u1, ?_⟩)
           | (refine ⟨_, u1, ?_⟩)
           | (refine cond_0 b1 ?_)
           | (refine Or.inl ⟨_, u2, ?_⟩)
           | (refine ⟨_, u2, ?_⟩)
           | (refine cond_0 b2 ?_)
           | (refine Or.inl ⟨_, u3, ?_⟩)
           | (refine ⟨_, u3, ?_⟩)
           | (refine cond_0 b3 ?_)
           | (refine Or.inl ⟨_, u4, ?_⟩)
           | (refine ⟨_, u4, ?_⟩)
           | (refine cond_1 b4 ?_)
           | (refine Or.inl ⟨_, n2, ?_⟩)
           | (refine ⟨_, n2, ?_⟩)
           | (refine ⟨⟨by decide +kernel, by decide +kernel, by decide +kernel⟩, ?_⟩)
           | (refine ⟨⟨by decide +kernel, by decide +kernel⟩, ?_⟩)
           | (refine ⟨z, ?_⟩)
           | (refine cond_f ?_ ?_)
           | (refine ⟨_, ⟨by decide, rfl⟩, ?_⟩)
           | (refine cond_i (fun h => ?_) (fun h => ?_)))
  all_goals (conv => whnf)
  all_goals rfl
variable (h4 : ¬ IntKind.i64.wrap (c.tdiv 60000000) < 100000000)
include h4
theorem renc_H (e : IntKind.i64.wrap (c.tdiv 3600000000) = q) : Fv Tryd.prog 48 [.int .i64 t] (.str (x ++ ⟨#[72]⟩)) := by
  have u1 : Fv Tryd.prog 77 [.int .u8 (byteAt (⟨#[117, 109, 83, 77, 72]⟩ : ByteArray) (Int.toNat 0))] (.int .i64 1) := ref02_Unit 117
  have b1 : decide (IntKind.i64.wrap (c.tdiv 1) < 100000000) = false := decide_eq_false h1
  have u2 : Fv Tryd.prog 77 [.int .u8 (byteAt (⟨#[117, 109, 83, 77, 72]⟩ : ByteArray) (Int.toNat (IntKind.i64.wrap (0 + 1))))] (.int .i64 1000) := ref02_Unit 109
  have b2 : decide (IntKind.i64.wrap (c.tdiv 1000) < 100000000) = false := decide_eq_false h2
  have u3 : Fv Tryd.prog 77 [.int .u8 (byteAt (⟨#[117, 109, 83, 77, 72]⟩ : ByteArray) (Int.toNat (IntKind.i64.wrap (IntKind.i64.wrap (0 + 1) + 1))))] (.int .i64 1000000) := ref02_Unit 83
  have b3 : decide (IntKind.i64.wrap (c.tdiv 1000000) < 100000000) = false := decide_eq_false h3
  have u4 : Fv Tryd.prog 77 [.int .u8 (byteAt (⟨#[117, 109, 83, 77, 72]⟩ : ByteArray) (Int.toNat (IntKind.i64.wrap (IntKind.i64.wrap (IntKind.i64.wrap (0 + 1) + 1) + 1))))] (.int .i64 60000000) := ref02_Unit 77
  have b4 : decide (IntKind.i64.wrap (c.tdiv 60000000) < 100000000) = false := decide_eq_false h4
  have u5 : Fv Tryd.prog 77 [.int .u8 72] (.int .i64 3600000000) := ref02_Unit 72
  subst e
  have z : ((x.size + (⟨#[72]⟩ : ByteArray).size : Nat) : Int) ≤ 9223372036854775807 := hz
  refine Fv.of_awp Tryd.func48 rfl (by kernel_rfl) rfl (Nat.le_of_ble_eq_true rfl) ?_
  repeat' (conv => whnf
           first
           | (refine And.intro (by kernel_rfl) ?_)
           | (refine And.intro ⟨by kernel_rfl, by kernel_rfl⟩ ?_)
           | (refine Or.inl ⟨_, n1, ?_⟩)
           | (refine ⟨_, n1, ?_⟩)
           | (refine cond_f ?_ ?_)
           | (refine ⟨_, ⟨by decide, rfl⟩, ?_⟩)
           | (refine cond_i (fun h => ?_) (fun h => ?_)))
  all_goals (conv => whnf)
  refine Has.ofN 5 ?_
  repeat' (conv => whnf
           first
           | (refine And.intro (by kernel_rfl) ?_)
           | (refine And.intro ⟨by kernel_rfl, by kernel_rfl⟩ ?_)
           | (refine Or.inl ⟨_, u1, ?_⟩)
           | (refine ⟨_, u1, ?_⟩)
           | (refine cond_0 b1 ?_)
           | (refine Or.inl ⟨_, u2, ?_⟩)
           | (refine ⟨_, u2, ?_⟩)
           | (refine cond_0 b2 ?_)
           | (refine Or.inl ⟨_, u3, ?_⟩)
           | (refine ⟨_, u3, ?_⟩)
           | (refine cond_0 b3 ?_)
           | (refine Or.inl ⟨_, u4, ?_⟩)
           | (refine ⟨_, u4, ?_⟩)
           | (refine cond_0 b4 ?_)
           | (refine Or.inl ⟨_, u5, ?_⟩)
           | (refine ⟨_, u5, ?_⟩)
           | (refine Or.inl ⟨_, n2, ?_⟩)
           | (refine ⟨_, n2, ?_⟩)
           | (refine ⟨⟨by decide +kernel, by decide +kernel⟩, ?_⟩)
           | (refine ⟨z, ?_⟩)
           | (refine cond_f ?_ ?_)
           | (refine ⟨_, ⟨by decide, rfl⟩, ?_⟩)
           | (refine cond_i (fun h => ?_) (fun h => ?_)))
  all_goals (conv => whnf)
  all_goals rfl
end
theorem ref02_Encode (t : Int) : Fv Tryd.prog 48 [.int .i64 t] (.str (enc t)) := by
  have hc := clamp_bd t
  have n1 := ref01_Clamp t
  have it : ∀ q : Int, 0 ≤ q ∧ q ≤ 1125899906842624 → Fv Tryd.prog 78 [.int .i64 q] (.str (strL (Lib.decDigits q.toNat))) := fun q hq => by
    have := ref02_Digits q.toNat (by omega)
    rw [Int.toNat_of_nonneg hq.1] at this
    exact this
  have sz : ∀ q : Int, 0 ≤ q ∧ q ≤ 1125899906842624 → (((strL (Lib.decDigits q.toNat)).size + 1 : Nat) : Int) ≤ 9223372036854775807 := fun q hq => by
    rw [strL_size]; have := dec_len q.toNat; omega
  obtain ⟨a1, a2, a3⟩ := qq (k := 1) hc (by omega)
  obtain ⟨m1, m2, m3⟩ := qq (k := 1000) hc (by omega)
  obtain ⟨s1, s2, s3⟩ := qq (k := 1000000) hc (by omega)
  obtain ⟨M1, M2, M3⟩ := qq (k := 60000000) hc (by omega)
  obtain ⟨H1, H2, H3⟩ := qq (k := 3600000000) hc (by omega)
  rw [Int.ediv_one] at a1
  unfold enc
  split
  · rename_i h
    rw [txt_app]
    exact renc_u t _ n1 _ _ (it _ hc) (sz _ hc) a1 (by omega)
  · rename_i h
    have h1 : ¬ IntKind.i64.wrap ((clamp t).tdiv 1) < 100000000 := by rw [a1]; omega
    split
    · rename_i h
      rw [txt_app]
      exact renc_m t _ n1 _ _ (it _ ⟨m2, m3⟩) (sz _ ⟨m2, m3⟩) h1 m1 (by omega)
    · rename_i h
      have h2 : ¬ IntKind.i64.wrap ((clamp t).tdiv 1000) < 100000000 := by rw [m1]; omega
      split
      · rename_i h
        rw [txt_app]
        exact renc_s t _ n1 _ _ (it _ ⟨s2, s3⟩) (sz _ ⟨s2, s3⟩) h1 h2 s1 (by omega)
      · rename_i h
        have h3 : ¬ IntKind.i64.wrap ((clamp t).tdiv 1000000) < 100000000 := by rw [s1]; omega
        split
        · rename_i h
          rw [txt_app]
          exact renc_M t _ n1 _ _ (it _ ⟨M2, M3⟩) (sz _ ⟨M2, M3⟩) h1 h2 h3 M1 (by omega)
        · rename_i h
          have h4 : ¬ IntKind.i64.wrap ((clamp t).tdiv 60000000) < 100000000 := by rw [M1]; omega
          rw [txt_app]
          exact renc_H t _ n1 _ _ (it _ ⟨H2, H3⟩) (sz _ ⟨H2, H3⟩) h1 h2 h3 h4 H1
end Go.Proofs.YtfacmphjplablaaDoor.Cn
