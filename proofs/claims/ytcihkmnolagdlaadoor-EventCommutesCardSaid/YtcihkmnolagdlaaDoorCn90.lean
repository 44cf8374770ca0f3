
/- Contracts: strings.Builder. No condition but sizes. -/
import Derived.Test.YtcihkmnolagdlaaDoorSp1
import Derived.Test.YtcihkmnolagdlaaDoorCn0
import Derived.Test.YtcihkmnolagdlaaDoorSp9
import Derived.Test.YtcihkmnolagdlaaDoorProg
import Derived.KernelRfl
import Derived.Test.YtcihkmnolagdlaaDoorAv16
namespace Go.Proofs.YtcihkmnolagdlaaDoor.Cn
open Go Go.Proofs Go.Proofs.YtcihkmnolagdlaaDoor.Av Go.Proofs.YtcihkmnolagdlaaDoor.Sp
set_option linter.unusedVariables false
set_option linter.unusedSimpArgs false
set_option linter.unusedSectionVars false
set_option maxRecDepth 100000
attribute [local irreducible] Fv Fp

theorem noEsc : NoEsc Tryd.prog 73 := ⟨_, Tryd.func73, by kernel_rfl, by kernel_rfl, by kernel_rfl, by kernel_rfl⟩
theorem bld_check0 : Fp Tryd.prog 59 [.ptrt 0 74 2] [[.lit (.pointer none), .nilt]] [] (.tup [], [some [.ptrt 0 74 2, .nilt]], []) := by
  refine Fp.of_awp Tryd.func59 rfl (by kernel_rfl) (Nat.le_of_ble_eq_true rfl) ?_
  repeat' (conv => whnf
           first
           | (refine And.intro (by kernel_rfl) ?_)
           | (refine And.intro ⟨by kernel_rfl, by kernel_rfl⟩ ?_)
           | (refine ⟨noEsc, ?_⟩)
           | (refine cond_f ?_ ?_)
           | (refine ⟨_, ⟨by decide, rfl⟩, ?_⟩)
           | (refine cond_i (fun h => ?_) (fun h => ?_)))
  all_goals (conv => whnf)
  all_goals rfl
theorem bld_check1 (g : G) (n : Nat) (xs : List (List G)) (hg : g = .ownt 0 n 5) : Fp Tryd.prog 59 [.ptrt 0 74 2] [[.ptrt 0 74 2, .ownt 0 n 5]] [xs] (.tup [], [some [.ptrt 0 74 2, .ownt 0 n 5]], [some xs]) := by
  refine Fp.of_awp Tryd.func59 rfl (by kernel_rfl) (Nat.le_of_ble_eq_true rfl) ?_
  repeat' (conv => whnf
           first
           | (refine And.intro (by kernel_rfl) ?_)
           | (refine And.intro ⟨by kernel_rfl, by kernel_rfl⟩ ?_)
           | (refine cond_f ?_ ?_)
           | (refine ⟨_, ⟨by decide, rfl⟩, ?_⟩)
           | (refine cond_i (fun h => ?_) (fun h => ?_)))
  all_goals (conv => whnf)
  all_goals rfl
theorem u8c : Tryd.prog.cellsOf 5 = 1 := by kernel_rfl
theorem u8b : Tryd.prog.bytesOf 5 = 1 := by kernel_rfl
theorem u8_rows (l : List UInt8) : okRows (Tryd.prog.cellsOf 5) (l.map fun b => [G.int .u8 (b.toNat : Int)]) = true := by
  rw [u8c]; unfold okRows
  rw [List.all_eq_true]
  intro r hr
  obtain ⟨x, _, rfl⟩ := List.mem_map.1 hr
  rfl
theorem u8_fit (l : List UInt8) (h : l.length ≤ 1000000000) : fitsB Tryd.prog 5 (l.map fun b => [G.int .u8 (b.toNat : Int)]).length := by
  unfold fitsB; rw [u8b, List.length_map]; omega
theorem u8_app (l m : List UInt8) (h : l.length + m.length ≤ 1000000000) : 0 + (l.map fun b => [G.int .u8 (b.toNat : Int)]).length ≤ (l.map fun b => [G.int .u8 (b.toNat : Int)]).length ∧
    (0 < (l.map fun b => [G.int .u8 (b.toNat : Int)]).length + (m.map fun b => [G.int .u8 (b.toNat : Int)]).length ∨ (l.map fun b => [G.int .u8 (b.toNat : Int)]) = []) ∧
    fitsB Tryd.prog 5 ((l.map fun b => [G.int .u8 (b.toNat : Int)]).length + (m.map fun b => [G.int .u8 (b.toNat : Int)]).length) ∧ ∀ r ∈ (l.map fun b => [G.int .u8 (b.toNat : Int)]), r.length = Tryd.prog.cellsOf 5 := by
  refine ⟨by omega, ?_, by unfold fitsB; rw [u8b, List.length_map, List.length_map]; omega, fun r hr => by obtain ⟨x, _, rfl⟩ := List.mem_map.1 hr; rw [u8c]; rfl⟩
  cases l with
  | nil => exact .inr rfl
  | cons x l => exact .inl (by simp; omega)
theorem u8_tk (l m : List UInt8) : ((l.map fun b => [G.int .u8 (b.toNat : Int)]).drop 0).take (l.map fun b => [G.int .u8 (b.toNat : Int)]).length ++ (m.map fun b => [G.int .u8 (b.toNat : Int)]) = (l ++ m).map fun b => [G.int .u8 (b.toNat : Int)] := by rw [List.drop_zero, List.take_length, List.map_append]
theorem u8_ln (l m : List UInt8) : (l.map fun b => [G.int .u8 (b.toNat : Int)]).length + (m.map fun b => [G.int .u8 (b.toNat : Int)]).length = ((l ++ m).map fun b => [G.int .u8 (b.toNat : Int)]).length := by simp
/-- A builder's two cells: fresh, or with bytes. -/
def bldC (l : List UInt8) : List G := [.ptrt 0 74 2, .ownt 0 (l.map fun b => [G.int .u8 (b.toNat : Int)]).length 5]
def bldR (l : List UInt8) : List (List G) := l.map fun b => [G.int .u8 (b.toNat : Int)]
def bldZ : List G := [.lit (.pointer none), .nilt]
theorem bld_WriteString0 (s : ByteArray) (h : s.size ≤ 1000000000) : Fp Tryd.prog 44 [.ptrt 0 74 2, .str s] [bldZ] [] (.tup [.int .i64 (s.size : Int), .lit .nilIface], [some (bldC s.data.toList)], [some (bldR s.data.toList)]) := by
  have r1 := u8_rows s.data.toList
  have f1 := u8_fit s.data.toList (by rw [size_list]; exact h)
  refine Fp.of_awp Tryd.func44 rfl (by kernel_rfl) (Nat.le_of_ble_eq_true rfl) ?_
  repeat' (conv => whnf
           first
           | (refine And.intro (by kernel_rfl) ?_)
           | (refine And.intro ⟨by kernel_rfl, by kernel_rfl⟩ ?_)
           | (refine Or.inr ⟨_, bld_check0, ?_⟩)
           | (refine cond_1 r1 ?_)
           | (refine ⟨f1, ?_⟩)
           | (refine cond_f ?_ ?_)
           | (refine ⟨_, ⟨by decide, rfl⟩, ?_⟩)
           | (refine cond_i (fun h => ?_) (fun h => ?_)))
  all_goals (conv => whnf)
  all_goals rfl
theorem bld_WriteString1 (l : List UInt8) (s : ByteArray) (h : l.length + s.size ≤ 1000000000) : Fp Tryd.prog 44 [.ptrt 0 74 2, .str s] [bldC l] [bldR l] (.tup [.int .i64 (s.size : Int), .lit .nilIface], [some (bldC (l ++ s.data.toList))], [some (bldR (l ++ s.data.toList))]) := by
  have r1 := u8_rows s.data.toList
  have f1 := u8_app l s.data.toList (by rw [size_list]; exact h)
  refine Fp.of_awp Tryd.func44 rfl (by kernel_rfl) (Nat.le_of_ble_eq_true rfl) ?_
  repeat' (conv => whnf
           first
           | (refine And.intro (by kernel_rfl) ?_)
           | (refine And.intro ⟨by kernel_rfl, by kernel_rfl⟩ ?_)
           | (refine Or.inr ⟨_, bld_check1 _ _ (l.map fun b => [G.int .u8 (b.toNat : Int)]) rfl, ?_⟩)
           | (refine cond_1 r1 ?_)
           | (refine ⟨f1, ?_⟩)
           | (rw [u8_tk])
           | (rw [u8_ln])
           | (refine cond_f ?_ ?_)
           | (refine ⟨_, ⟨by decide, rfl⟩, ?_⟩)
           | (refine cond_i (fun h => ?_) (fun h => ?_)))
  all_goals (conv => whnf)
  all_goals rfl
theorem bld_String0 : Fp Tryd.prog 45 [.ptrt 0 74 2] [bldZ] [] (.str (strL []), [some bldZ], []) := by
  refine Fp.of_awp Tryd.func45 rfl (by kernel_rfl) (Nat.le_of_ble_eq_true rfl) ?_
  repeat' (conv => whnf
           first
           | (refine And.intro (by kernel_rfl) ?_)
           | (refine And.intro ⟨by kernel_rfl, by kernel_rfl⟩ ?_)
           | (refine ⟨rfl, ?_⟩)
           | (refine cond_f ?_ ?_)
           | (refine ⟨_, ⟨by decide, rfl⟩, ?_⟩)
           | (refine cond_i (fun h => ?_) (fun h => ?_)))
  all_goals (conv => whnf)
  all_goals rfl
theorem bld_String1 (l : List UInt8) (h : l.length ≤ 1000000000) : Fp Tryd.prog 45 [.ptrt 0 74 2] [bldC l] [bldR l] (.str (strL l), [some [.ptrt 0 74 2, .dead]], [none]) := by
  have f1 : (((l.map fun b => [G.int .u8 (b.toNat : Int)]).length : Nat) : Int) = (l.length : Int) ∧ l.length ≤ 9223372036854775807 ∧ (l.map fun b => [G.int .u8 (b.toNat : Int)]).take l.length = l.map fun b => [G.int .u8 (b.toNat : Int)] := ⟨by simp, by omega, List.take_of_length_le (by simp)⟩
  refine Fp.of_awp Tryd.func45 rfl (by kernel_rfl) (Nat.le_of_ble_eq_true rfl) ?_
  repeat' (conv => whnf
           first
           | (refine And.intro (by kernel_rfl) ?_)
           | (refine And.intro ⟨by kernel_rfl, by kernel_rfl⟩ ?_)
           | (refine ⟨l, f1, ?_⟩)
           | (refine cond_f ?_ ?_)
           | (refine ⟨_, ⟨by decide, rfl⟩, ?_⟩)
           | (refine cond_i (fun h => ?_) (fun h => ?_)))
  all_goals (conv => whnf)
  all_goals rfl
end Go.Proofs.YtcihkmnolagdlaaDoor.Cn
