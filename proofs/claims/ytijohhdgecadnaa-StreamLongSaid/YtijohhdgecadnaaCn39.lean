/- Law 38: what is too long. No condition but sizes. -/
import Derived.Test.YtijohhdgecadnaaSp1
import Derived.Test.YtijohhdgecadnaaProg
import Derived.KernelRfl
import Derived.Test.YtijohhdgecadnaaCn36
import Derived.Test.YtijohhdgecadnaaAv16
namespace Go.Proofs.Ytijohhdgecadnaa.Cn
open Go Go.Proofs Go.Proofs.Ytijohhdgecadnaa.Av Go.Proofs.Ytijohhdgecadnaa.Sp
set_option linter.unusedVariables false
set_option linter.unusedSimpArgs false
set_option maxRecDepth 100000
attribute [local irreducible] Fv Fp

theorem left_nil : Fv Try.prog 33 [.lit (.pointer none)] (.int .i64 0) := by
  refine Fv.of_awp Try.func33 rfl (by kernel_rfl) rfl (Nat.le_of_ble_eq_true rfl) ?_
  repeat' (conv => whnf
           first
           | (refine And.intro (by kernel_rfl) ?_)
           | (refine And.intro ⟨by kernel_rfl, by kernel_rfl⟩ ?_)
           | (refine cond_f ?_ ?_)
           | (refine ⟨_, ⟨by decide, rfl⟩, ?_⟩)
           | (refine cond_i (fun h => ?_) (fun h => ?_)))
  all_goals (conv => whnf)
  all_goals rfl
theorem over_nil : Fv Try.prog 36 [.lit (.pointer none)] (.bool false) := by
  refine Fv.of_awp Try.func36 rfl (by kernel_rfl) rfl (Nat.le_of_ble_eq_true rfl) ?_
  repeat' (conv => whnf
           first
           | (refine And.intro (by kernel_rfl) ?_)
           | (refine And.intro ⟨by kernel_rfl, by kernel_rfl⟩ ?_)
           | (refine cond_f ?_ ?_)
           | (refine ⟨_, ⟨by decide, rfl⟩, ?_⟩)
           | (refine cond_i (fun h => ?_) (fun h => ?_)))
  all_goals (conv => whnf)
  all_goals rfl
theorem long_small (n : Int) (s : ByteArray) (h : n ≤ 4096) : Fv Try.prog 9 [.int .u32 n, .str s] (.bool true) := by
  have n1 := feed_nil s
  have n2 := left_nil
  have n3 := over_nil
  have aw := law38_awake
  have b1 : decide (n ≤ 4096) = true := decide_eq_true h
  refine Fv.of_awp Try.func9 rfl (by kernel_rfl) rfl (Nat.le_of_ble_eq_true rfl) ?_
  repeat' (conv => whnf
           first
           | (refine And.intro (by kernel_rfl) ?_)
           | (refine And.intro ⟨by kernel_rfl, by kernel_rfl⟩ ?_)
           | (refine Or.inl ⟨_, n1, ?_⟩)
           | (refine ⟨_, n1, ?_⟩)
           | (refine Or.inl ⟨_, n2, ?_⟩)
           | (refine ⟨_, n2, ?_⟩)
           | (refine Or.inl ⟨_, n3, ?_⟩)
           | (refine ⟨_, n3, ?_⟩)
           | (refine cond_1 b1 ?_)
           | (refine Or.inl ⟨_, aw, ?_⟩)
           | (refine ⟨_, aw, ?_⟩)
           | (refine cond_f ?_ ?_)
           | (refine ⟨_, ⟨by decide, rfl⟩, ?_⟩)
           | (refine cond_i (fun h => ?_) (fun h => ?_)))
  all_goals (conv => whnf)
  all_goals rfl
set_option maxHeartbeats 4000000 in
theorem long_of (n : Int) (s u w : ByteArray) (d1 d2 d3 d4 : Int) (q c1 c2 : List UInt8) (m : Stm) (h : 4096 < n)
    (e1 : IntKind.u8.wrap (n.fdiv (2 ^ (min (Int.toNat 24) IntKind.u32.bits))) = d1) (e2 : IntKind.u8.wrap (n.fdiv (2 ^ (min (Int.toNat 16) IntKind.u32.bits))) = d2) (e3 : IntKind.u8.wrap (n.fdiv (2 ^ (min (Int.toNat 8) IntKind.u32.bits))) = d3) (e4 : IntKind.u8.wrap n = d4)
    (hq : [[G.int .u8 d1], [G.int .u8 d2], [G.int .u8 d3], [G.int .u8 d4]] = q.map (fun b => [G.int .u8 b.toNat]))
    (z1 : (((⟨#[1]⟩ : ByteArray).size + (⟨q.toArray⟩ : ByteArray).size : Nat) : Int) ≤ 9223372036854775807) (z2 : ((((⟨#[1]⟩ : ByteArray) ++ ⟨q.toArray⟩).size + s.size : Nat) : Int) ≤ 9223372036854775807)
    (n4 : Fp Try.prog 32 [.ptr 0 0, .str ((⟨#[1]⟩ : ByteArray) ++ ⟨q.toArray⟩ ++ s)] [(⟨emptyB, false, 0⟩ : Stm).g] [] (.tup [.own 0 0 0, .int .i64 3], [some m.g], [some []]))
    (y1 : ((List.replicate (Int.toNat 4097) [G.int .u8 0]).drop 0).take (Int.toNat 4097) = c1.map (fun b => [G.int .u8 b.toNat])) (x1 : (0 : Nat) + Int.toNat 4097 ≤ (List.replicate (Int.toNat 4097) [G.int .u8 0]).length)
    (y2 : ((List.replicate (Int.toNat 4096) [G.int .u8 0]).drop 0).take (Int.toNat 4096) = c2.map (fun b => [G.int .u8 b.toNat])) (x2 : (0 : Nat) + Int.toNat 4096 ≤ (List.replicate (Int.toNat 4096) [G.int .u8 0]).length)
    (n5 : Fv Try.prog 39 [.agg [.str ⟨c1.toArray⟩, .bool false]] (.str u)) (n6 : Fv Try.prog 39 [.agg [.str ⟨c2.toArray⟩, .bool false]] (.str w))
    (b2 : strEq u ⟨#[]⟩ = true) (b3 : (((w.size : Nat) : Int) == 4101) = true) : Fv Try.prog 9 [.int .u32 n, .str s] (.bool true) := by
  have n0 := st_New
  have n1 := feed_nil s
  have n2 := left_nil
  have n3 := over_nil
  have aw := law38_awake
  have b1 : decide (n ≤ 4096) = false := decide_eq_false (by omega)
  have hb : Try.prog.bytesOf 5 = 1 := by kernel_rfl
  have f1 : ((0 : Int) ≤ 4097 ∧ (4097 : Int) = 4097 ∧ (4097 : Int) * (Try.prog.bytesOf 5 : Nat) ≤ 281474976710656 ∧ (4097 : Int) ≤ 281474976710656) := by rw [hb]; omega
  have f2 : ((0 : Int) ≤ 4096 ∧ (4096 : Int) = 4096 ∧ (4096 : Int) * (Try.prog.bytesOf 5 : Nat) ≤ 281474976710656 ∧ (4096 : Int) ≤ 281474976710656) := by rw [hb]; omega
  rw [← e1, ← e2, ← e3, ← e4] at hq
  refine Fv.of_awp Try.func9 rfl (by kernel_rfl) rfl (Nat.le_of_ble_eq_true rfl) ?_
  repeat' (conv => whnf
           first
           | (refine And.intro (by kernel_rfl) ?_)
           | (refine And.intro ⟨by kernel_rfl, by kernel_rfl⟩ ?_)
           | (refine Or.inl ⟨_, n1, ?_⟩)
           | (refine ⟨_, n1, ?_⟩)
           | (refine Or.inl ⟨_, n2, ?_⟩)
           | (refine ⟨_, n2, ?_⟩)
           | (refine Or.inl ⟨_, n3, ?_⟩)
           | (refine ⟨_, n3, ?_⟩)
           | (refine cond_0 b1 ?_)
           | (refine Or.inr ⟨_, n0, ?_⟩)
           | (refine ⟨_, hq, ?_⟩)
           | (refine ⟨z1, ?_⟩)
           | (refine ⟨z2, ?_⟩)
           | (refine Or.inr ⟨_, n4, ?_⟩)
           | (refine ⟨f1, ?_⟩)
           | (refine ⟨f2, ?_⟩)
           | (refine ⟨x1, _, y1, ?_⟩)
           | (refine ⟨x2, _, y2, ?_⟩)
           | (refine Or.inl ⟨_, n5, ?_⟩)
           | (refine ⟨_, n5, ?_⟩)
           | (refine Or.inl ⟨_, n6, ?_⟩)
           | (refine ⟨_, n6, ?_⟩)
           | (refine cond_1 b2 ?_)
           | (refine cond_1 b3 ?_)
           | (refine Or.inl ⟨_, aw, ?_⟩)
           | (refine ⟨_, aw, ?_⟩)
           | (refine cond_f ?_ ?_)
           | (refine ⟨_, ⟨by decide, rfl⟩, ?_⟩)
           | (refine cond_i (fun h => ?_) (fun h => ?_)))
  all_goals (conv => whnf)
  all_goals rfl
theorem long_feed (n : Nat) (s : ByteArray) (h1 : 4096 < n) (h2 : n < 4294967296) : feedM ⟨emptyB, false, 0⟩ ((⟨#[1]⟩ : ByteArray) ++ ⟨(dgs n 4).toArray⟩ ++ s) = ([], ⟨emptyB, false, 3⟩) := by
  have e : (⟨#[1]⟩ : ByteArray) ++ ⟨(dgs n 4).toArray⟩ ++ s = strL (1 :: (dgs n 4 ++ s.data.toList)) := by
    apply ext_list
    rw [app_list, app_list]
    rfl
  unfold feedM
  simp only [empty_app]
  rw [e]
  have hsz : (strL (1 :: (dgs n 4 ++ s.data.toList))).size = 5 + s.size := by rw [strL_size, List.length_cons, List.length_append, dgs_len, size_list]; omega
  have hb : byteAt (strL (1 :: (dgs n 4 ++ s.data.toList))) 0 = 1 := rfl
  have hn : need (strL (1 :: (dgs n 4 ++ s.data.toList))) = n := by
    unfold need
    rw [numOf_cons (p := 0), numOf_dgs, Int.toNat_natCast]
    exact Nat.mod_eq_of_lt (by omega)
  refine runM_none ?_
  unfold nextM
  rw [if_neg (by simp only [hsz]; omega), if_neg (by simp), if_neg (by rw [hb]; omega), if_neg (by simp only [hsz]; omega), if_pos (by rw [hn]; exact h1)]
  rfl
theorem rep_bytes (k : Nat) : ((List.replicate k [G.int .u8 0]).drop 0).take k = (List.replicate k (0 : UInt8)).map (fun b => [G.int .u8 b.toNat]) := by
  rw [List.drop_zero, List.take_of_length_le (by simp), List.map_replicate]; rfl
theorem wf_u32 {n : Int} (h : (Lit.int .u32 n).wf = true) : 0 ≤ n ∧ n < 4294967296 := by
  simp [Lit.wf, IntKind.min, IntKind.max, IntKind.signed, IntKind.bits] at h
  omega
theorem law38_StreamLong (n : Int) (s : ByteArray) (h0 : 0 ≤ n ∧ n < 4294967296) (hs : s.size ≤ 140737488351232) : Fv Try.prog 9 [.int .u32 n, .str s] (.bool true) := by
  by_cases h : n ≤ 4096
  · exact long_small n s h
  obtain ⟨v, rfl⟩ := Int.eq_ofNat_of_zero_le h0.1
  have hf := long_feed v s (by omega) (by omega)
  have n4 := st_Feed ⟨emptyB, false, 0⟩ ((⟨#[1]⟩ : ByteArray) ++ ⟨(dgs v 4).toArray⟩ ++ s) rfl (by
    rw [app_size, app_size]
    have e1 : (⟨(dgs v 4).toArray⟩ : ByteArray).size = 4 := by show (strL _).size = 4; rw [strL_size, dgs_len]
    have e2 : (⟨#[1]⟩ : ByteArray).size = 1 := rfl
    have e3 : (⟨emptyB, false, 0⟩ : Stm).s.size = 0 := rfl
    omega) (by rw [hf]; exact (by decide : (0 : Nat) < 1000000))
  rw [hf] at n4
  have fd : ∀ k : Nat, ((v : Int)).fdiv (k : Nat) = ((v / k : Nat) : Int) := fun k => by rw [Int.fdiv_eq_ediv_of_nonneg _ (by omega)]; rfl
  have big : ∀ l : List UInt8, l.length = 4097 → packB ⟨strL l, false⟩ = ⟨#[]⟩ := fun l hl => by unfold packB; rw [if_pos (by simp only [strL_size]; omega)]
  have fit : ∀ l : List UInt8, l.length = 4096 → (packB ⟨strL l, false⟩).size = 4101 := fun l hl => by
    unfold packB
    rw [if_neg (by simp only [strL_size]; omega), app_size, app_size]
    simp only [strL_size, hl]
    rw [num4_size 4096 (by omega)]
    rfl
  refine long_of v s (packB ⟨strL (List.replicate 4097 0), false⟩) (packB ⟨strL (List.replicate 4096 0), false⟩) _ _ _ _ (dgs v 4) (List.replicate 4097 0) (List.replicate 4096 0) _ (by omega) rfl rfl rfl rfl ?_ ?_ ?_ n4 (rep_bytes 4097) (by simp) (rep_bytes 4096) (by simp) (st_Pack ⟨strL (List.replicate 4097 0), false⟩) (st_Pack ⟨strL (List.replicate 4096 0), false⟩) ?_ ?_
  · rw [show (2 : Int) ^ (min (Int.toNat 24) IntKind.u32.bits) = ((16777216 : Nat) : Int) from by decide, show (2 : Int) ^ (min (Int.toNat 16) IntKind.u32.bits) = ((65536 : Nat) : Int) from by decide, show (2 : Int) ^ (min (Int.toNat 8) IntKind.u32.bits) = ((256 : Nat) : Int) from by decide, fd, fd, fd, wrap_u8, wrap_u8, wrap_u8, wrap_u8]
    have e : dgs v 4 = [UInt8.ofNat (v / 16777216), UInt8.ofNat (v / 65536), UInt8.ofNat (v / 256), UInt8.ofNat v] := by
      rw [dgs_succ, dgs_succ, dgs_succ, dgs_succ]
      show [_, _, _, UInt8.ofNat (v / 1)] = _
      rw [Nat.div_one]
    rw [e]
    rfl
  · show ((1 + (strL (dgs v 4)).size : Nat) : Int) ≤ _
    rw [strL_size, dgs_len]; omega
  · rw [app_size]
    show ((1 + (strL (dgs v 4)).size + s.size : Nat) : Int) ≤ _
    rw [strL_size, dgs_len]; omega
  · rw [big _ (by simp)]; exact strEq_self _
  · rw [fit _ (by simp)]; rfl
end Go.Proofs.Ytijohhdgecadnaa.Cn
