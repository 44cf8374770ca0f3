
/- Contracts: bytes, of which one is another one; identities. No condition but lengths. -/
import Derived.Test.YtfpincfmcjiokaaCn74
import Derived.Test.YtfpincfmcjiokaaCn33
import Derived.Test.YtfpincfmcjiokaaCn20
import Derived.Test.YtfpincfmcjiokaaSp6
namespace Go.Proofs.Ytfpincfmcjiokaa.Cn
open Go Go.Proofs Go.Proofs.Ytfpincfmcjiokaa.Av Go.Proofs.Ytfpincfmcjiokaa.Sp
set_option linter.unusedVariables false
set_option linter.unusedSimpArgs false
set_option linter.unusedSectionVars false
set_option maxRecDepth 100000
attribute [local irreducible] Fv Fp

theorem u8_xor (u v : UInt8) : IntKind.u8.wrap ((BitVec.ofInt IntKind.u8.bits (u.toNat : Int) ^^^ BitVec.ofInt IntKind.u8.bits (v.toNat : Int)).toNat : Nat) = ((u ^^^ v).toNat : Int) := by
  have e : ∀ u : UInt8, BitVec.ofInt IntKind.u8.bits (u.toNat : Int) = u.toBitVec := fun u => by
    show BitVec.ofInt 8 _ = _
    rw [BitVec.ofInt_natCast]
    apply BitVec.eq_of_toNat_eq
    rw [BitVec.toNat_ofNat]
    exact Nat.mod_eq_of_lt u.toBitVec.isLt
  rw [e, e, wrap_u8]
  show ((UInt8.ofNat (u ^^^ v).toNat).toNat : Int) = _
  rw [UInt8.ofNat_toNat]
theorem ref03_Changed (s : ByteArray) (i : Nat) (x : UInt8) (hi : i < s.size) (hs : s.size < 1000000) : Fv Try.prog 15 [.str s, .int .i64 (i : Int), .int .u8 (x.toNat : Int)] (.str (changed s i x)) := by
  refine Fv.of_awp Try.func15 rfl (by kernel_rfl) rfl (Nat.le_of_ble_eq_true rfl) ?_
  have hl : (changed s i x).data.toList.length = s.size := by unfold changed; rw [strL_list, List.length_set, size_list]
  repeat' (conv => whnf
           first
           | (refine And.intro (by kernel_rfl) ?_)
           | (refine And.intro ⟨by kernel_rfl, by kernel_rfl⟩ ?_)
           | (refine cond_f ?_ ?_)
           | (refine ⟨_, ⟨by decide, rfl⟩, ?_⟩)
           | (refine cond_i (fun h => ?_) (fun h => ?_)))
  all_goals (conv => whnf)
  refine Has.own0 7 28 rfl rfl ?_
  refine Has.each [0, 1, 2, 7, 8] [9] (changed s i x).data.toList.length (OwnI byteG (changed s i x).data.toList) (fun b k =>
    St.of 31 [(0, .str s), (1, .int .i64 (i : Int)), (2, .int .u8 (x.toNat : Int)), (7, .own 28 0 b.1), (8, .int .i64 k)] [] [(28, b.2)]) ⟨(0, []), _, rfl, ⟨rfl, rfl⟩, rfl⟩ (fun k b hk hI => ?_) (fun b hI => ?_)
  · obtain ⟨n, xs⟩ := b
    obtain ⟨rfl, rfl⟩ : n = k ∧ xs = _ := hI
    have hk' : n < s.size := by omega
    have c1 : decide ((n : Int) < (s.size : Int)) = true := decide_eq_true (by omega)
    have f1 : (0 : Int) ≤ (n : Int) ∧ (n : Int) < (s.size : Int) := ⟨by omega, by omega⟩
    have ex : IntKind.u8.wrap ((BitVec.ofInt IntKind.u8.bits (byteAt s (n : Int).toNat) ^^^ BitVec.ofInt IntKind.u8.bits (x.toNat : Int)).toNat : Nat) = ((s.data.toList.getD n 0 ^^^ x).toNat : Int) := u8_xor _ _
    have eb : byteAt s (n : Int).toNat = ((s.data.toList.getD n 0).toNat : Int) := rfl
    have hget : (changed s i x).data.toList[n] = if n = i then s.data.toList.getD n 0 ^^^ x else s.data.toList.getD n 0 := by
      have hn : n < s.data.toList.length := by rw [size_list]; exact hk'
      have hn2 : n < (s.data.toList.set i (s.data.toList.getD i 0 ^^^ x)).length := by rw [List.length_set]; exact hn
      show (s.data.toList.set i (s.data.toList.getD i 0 ^^^ x))[n] = _
      have hg : s.data.toList.getD n 0 = s.data.toList[n] := by rw [List.getD_eq_getElem?_getD, List.getElem?_eq_getElem hn]; rfl
      by_cases e : n = i
      · subst e; rw [if_pos rfl]; exact List.getElem_set_self hn2
      · rw [if_neg e, hg]; exact List.getElem_set_ne (fun h => e h.symm) hn2
    refine awp_go ?_
    by_cases e : n = i
    · have c2 : ((n : Int) == (i : Int)) = true := by rw [e]; simp
      rw [if_pos e] at hget
      repeat' (conv => whnf
               first
               | (refine And.intro (by kernel_rfl) ?_)
               | (refine And.intro ⟨by kernel_rfl, by kernel_rfl⟩ ?_)
               | (refine cond_1 c1 ?_)
               | (refine ⟨f1, ?_⟩)
               | (refine cond_1 c2 ?_)
               | (rw [ex])
               | (refine ⟨app_at 1 1 (Nat.le_of_lt hk) (by kernel_rfl) (by kernel_rfl) (fun _ => rfl) (by omega), ?_⟩)
               | (refine cond_f ?_ ?_)
               | (refine ⟨_, ⟨by decide, rfl⟩, ?_⟩)
               | (refine cond_i (fun h => ?_) (fun h => ?_)))
      all_goals (conv => whnf)
      rw [← hget]
      exact ⟨(_, _), _, rfl, ⟨rfl, own_app (R := byteG) hk⟩, up1 hk (by omega)⟩
    · have c2 : ((n : Int) == (i : Int)) = false := by simp; omega
      rw [if_neg e] at hget
      repeat' (conv => whnf
               first
               | (refine And.intro (by kernel_rfl) ?_)
               | (refine And.intro ⟨by kernel_rfl, by kernel_rfl⟩ ?_)
               | (refine cond_1 c1 ?_)
               | (refine ⟨f1, ?_⟩)
               | (refine cond_0 c2 ?_)
               | (rw [eb])
               | (refine ⟨app_at 1 1 (Nat.le_of_lt hk) (by kernel_rfl) (by kernel_rfl) (fun _ => rfl) (by omega), ?_⟩)
               | (refine cond_f ?_ ?_)
               | (refine ⟨_, ⟨by decide, rfl⟩, ?_⟩)
               | (refine cond_i (fun h => ?_) (fun h => ?_)))
      all_goals (conv => whnf)
      rw [← hget]
      exact ⟨(_, _), _, rfl, ⟨rfl, own_app (R := byteG) hk⟩, up1 hk (by omega)⟩
  · obtain ⟨n, xs⟩ := b
    obtain ⟨rfl, rfl⟩ : n = _ ∧ xs = _ := hI
    have c1 : decide (((changed s i x).data.toList.length : Int) < (s.size : Int)) = false := decide_eq_false (by omega)
    have c2 := own_le (R := byteG) (l := (changed s i x).data.toList)
    refine awp_go ?_
    repeat' (conv => whnf
             first
             | (refine And.intro (by kernel_rfl) ?_)
             | (refine And.intro ⟨by kernel_rfl, by kernel_rfl⟩ ?_)
             | (refine cond_0 c1 ?_)
             | (refine ⟨c2, _, own_all, ?_⟩)
             | (refine cond_f ?_ ?_)
             | (refine ⟨_, ⟨by decide, rfl⟩, ?_⟩)
             | (refine cond_i (fun h => ?_) (fun h => ?_)))
    all_goals (conv => whnf)
    all_goals rfl
end Go.Proofs.Ytfpincfmcjiokaa.Cn
