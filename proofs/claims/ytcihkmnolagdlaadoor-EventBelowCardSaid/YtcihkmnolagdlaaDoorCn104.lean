
/- Contract: an event's line, by what its parts are. No condition but that numbers are of 64 bits. -/
import Derived.Test.YtcihkmnolagdlaaDoorSp1
import Derived.Test.YtcihkmnolagdlaaDoorCn0
import Derived.Test.YtcihkmnolagdlaaDoorSp21
import Derived.Test.YtcihkmnolagdlaaDoorCn101
import Derived.Test.YtcihkmnolagdlaaDoorProg
import Derived.KernelRfl
import Derived.Test.YtcihkmnolagdlaaDoorAv18
namespace Go.Proofs.YtcihkmnolagdlaaDoor.Cn
open Go Go.Proofs Go.Proofs.YtcihkmnolagdlaaDoor.Av Go.Proofs.YtcihkmnolagdlaaDoor.Sp
set_option linter.unusedVariables false
set_option linter.unusedSimpArgs false
set_option linter.unusedSectionVars false
set_option maxRecDepth 100000
attribute [local irreducible] Fv Fp

theorem ap_ok {xs : List (List G)} {len m : Nat} (h1 : Nat.ble (0 + len) xs.length = true) (h2 : Nat.blt 0 len = true) (h3 : Nat.ble (len + m) 1000 = true) (h4 : xs.all (fun r => Nat.beq r.length 1) = true) :
    0 + len ≤ xs.length ∧ (0 < len + m ∨ xs = []) ∧ fitsB Tryd.prog 9 (len + m) ∧ ∀ r ∈ xs, r.length = Tryd.prog.cellsOf 9 := by
  have h1 := Nat.le_of_ble_eq_true h1
  have h2 := Nat.le_of_ble_eq_true h2
  have h3 := Nat.le_of_ble_eq_true h3
  refine ⟨h1, .inl (by omega), fits 16 (by kernel_rfl) (by omega), fun r hr => ?_⟩
  rw [show Tryd.prog.cellsOf 9 = 1 from by kernel_rfl]
  exact Nat.eq_of_beq_eq_true (List.all_eq_true.1 h4 r hr)
theorem le_ok {a b : Nat} (h : Nat.ble a b = true) : a ≤ b := Nat.le_of_ble_eq_true h
def Jn (l : List ByteArray) (J : ByteArray) : Prop := Fv Tryd.prog 57 [.sl (l.map strG'), .str ⟨#[32]⟩] (.str J)
def Nm (k : Int) (s : ByteArray) : Prop := Fv Tryd.prog 17 [.int .i64 k] (.str s)
def It (k : Int) (s : ByteArray) : Prop := Fv Tryd.prog 53 [.int .i64 k] (.str s)
def Kt (k : Sp.Key) (s : ByteArray) : Prop := Fv Tryd.prog 55 [.agg k.g] (.str s)
set_option maxHeartbeats 4000000 in
theorem line_9 (real node loc hop code value : Int) (key parent : Sp.Key) (root : Sp.Id) (r s nd lc J : ByteArray) (n1 : It real r) (n2 : Nm 9 s) (n3 : It node nd) (n4 : It loc lc) (nJ : Jn [r, s, ⟨#[97, 116]⟩, nd, lc] J) :
    Fv Tryd.prog 39 [.agg (⟨9, real, node, loc, key, parent, root, hop, code, value⟩ : Ev).g] (.str J) := by
  unfold It Nm Jn at *
  simp only [List.map_cons, List.map_nil] at nJ
  refine Fv.of_awp Tryd.func39 rfl (by kernel_rfl) rfl (Nat.le_of_ble_eq_true rfl) ?_
  repeat' (conv => whnf
           first
           | (refine And.intro (by kernel_rfl) ?_)
           | (refine And.intro ⟨by kernel_rfl, by kernel_rfl⟩ ?_)
           | (refine Or.inl ⟨_, n1, ?_⟩)
           | (refine ⟨_, n1, ?_⟩)
           | (refine Or.inl ⟨_, n2, ?_⟩)
           | (refine ⟨_, n2, ?_⟩)
           | (refine Or.inl ⟨_, n3, ?_⟩)
           | (refine ⟨_, n3, ?_⟩)
           | (refine Or.inl ⟨_, n4, ?_⟩)
           | (refine ⟨_, n4, ?_⟩)
           | (refine Or.inl ?_)
           | (refine ⟨le_ok rfl, ?_⟩)
           | (refine Or.inl ⟨_, nJ, ?_⟩)
           | (refine ⟨_, nJ, ?_⟩)
           | (refine cond_f ?_ ?_)
           | (refine ⟨_, ⟨by decide, rfl⟩, ?_⟩)
           | (refine cond_i (fun h => ?_) (fun h => ?_)))
  all_goals (conv => whnf)
  all_goals rfl
set_option maxHeartbeats 4000000 in
theorem line_2 (real node loc hop code value : Int) (key parent : Sp.Key) (root : Sp.Id) (r s nd lc kt pt rt ht J : ByteArray) (n1 : It real r) (n2 : Nm 2 s) (n3 : It node nd) (n4 : It loc lc) (n5 : Kt key kt) (m1 : Kt parent pt) (m2 : Fv Tryd.prog 56 [.agg root.g] (.str rt)) (m3 : It hop ht) (nJ : Jn [r, s, ⟨#[97, 116]⟩, nd, lc, kt, ⟨#[98, 121]⟩, pt, ⟨#[117, 110, 100, 101, 114]⟩, rt, ⟨#[104, 111, 112]⟩, ht] J) :
    Fv Tryd.prog 39 [.agg (⟨2, real, node, loc, key, parent, root, hop, code, value⟩ : Ev).g] (.str J) := by
  unfold It Nm Jn Kt at *
  simp only [List.map_cons, List.map_nil] at nJ
  refine Fv.of_awp Tryd.func39 rfl (by kernel_rfl) rfl (Nat.le_of_ble_eq_true rfl) ?_
  repeat' (conv => whnf
           first
           | (refine And.intro (by kernel_rfl) ?_)
           | (refine And.intro ⟨by kernel_rfl, by kernel_rfl⟩ ?_)
           | (refine Or.inl ⟨_, n1, ?_⟩)
           | (refine ⟨_, n1, ?_⟩)
           | (refine Or.inl ⟨_, n2, ?_⟩)
           | (refine ⟨_, n2, ?_⟩)
           | (refine Or.inl ⟨_, n3, ?_⟩)
           | (refine ⟨_, n3, ?_⟩)
           | (refine Or.inl ⟨_, n4, ?_⟩)
           | (refine ⟨_, n4, ?_⟩)
           | (refine Or.inl ⟨_, n5, ?_⟩)
           | (refine ⟨_, n5, ?_⟩)
           | (refine Or.inl ⟨_, m1, ?_⟩)
           | (refine ⟨_, m1, ?_⟩)
           | (refine Or.inl ⟨_, m2, ?_⟩)
           | (refine ⟨_, m2, ?_⟩)
           | (refine Or.inl ⟨_, m3, ?_⟩)
           | (refine ⟨_, m3, ?_⟩)
           | (refine ⟨ap_ok rfl rfl rfl rfl, ?_⟩)
           | (refine Or.inl ?_)
           | (refine ⟨le_ok rfl, ?_⟩)
           | (refine Or.inl ⟨_, nJ, ?_⟩)
           | (refine ⟨_, nJ, ?_⟩)
           | (refine cond_f ?_ ?_)
           | (refine ⟨_, ⟨by decide, rfl⟩, ?_⟩)
           | (refine cond_i (fun h => ?_) (fun h => ?_)))
  all_goals (conv => whnf)
  all_goals rfl
set_option maxHeartbeats 4000000 in
theorem line_3 (real node loc hop code value : Int) (key parent : Sp.Key) (root : Sp.Id) (r s nd lc kt pt rt ht J : ByteArray) (n1 : It real r) (n2 : Nm 3 s) (n3 : It node nd) (n4 : It loc lc) (n5 : Kt key kt) (m1 : Kt parent pt) (m2 : Fv Tryd.prog 56 [.agg root.g] (.str rt)) (m3 : It hop ht) (nJ : Jn [r, s, ⟨#[97, 116]⟩, nd, lc, kt, ⟨#[98, 121]⟩, pt, ⟨#[117, 110, 100, 101, 114]⟩, rt, ⟨#[104, 111, 112]⟩, ht] J) :
    Fv Tryd.prog 39 [.agg (⟨3, real, node, loc, key, parent, root, hop, code, value⟩ : Ev).g] (.str J) := by
  unfold It Nm Jn Kt at *
  simp only [List.map_cons, List.map_nil] at nJ
  refine Fv.of_awp Tryd.func39 rfl (by kernel_rfl) rfl (Nat.le_of_ble_eq_true rfl) ?_
  repeat' (conv => whnf
           first
           | (refine And.intro (by kernel_rfl) ?_)
           | (refine And.intro ⟨by kernel_rfl, by kernel_rfl⟩ ?_)
           | (refine Or.inl ⟨_, n1, ?_⟩)
           | (refine ⟨_, n1, ?_⟩)
           | (refine Or.inl ⟨_, n2, ?_⟩)
           | (refine ⟨_, n2, ?_⟩)
           | (refine Or.inl ⟨_, n3, ?_⟩)
           | (refine ⟨_, n3, ?_⟩)
           | (refine Or.inl ⟨_, n4, ?_⟩)
           | (refine ⟨_, n4, ?_⟩)
           | (refine Or.inl ⟨_, n5, ?_⟩)
           | (refine ⟨_, n5, ?_⟩)
           | (refine Or.inl ⟨_, m1, ?_⟩)
           | (refine ⟨_, m1, ?_⟩)
           | (refine Or.inl ⟨_, m2, ?_⟩)
           | (refine ⟨_, m2, ?_⟩)
           | (refine Or.inl ⟨_, m3, ?_⟩)
           | (refine ⟨_, m3, ?_⟩)
           | (refine ⟨ap_ok rfl rfl rfl rfl, ?_⟩)
           | (refine Or.inl ?_)
           | (refine ⟨le_ok rfl, ?_⟩)
           | (refine Or.inl ⟨_, nJ, ?_⟩)
           | (refine ⟨_, nJ, ?_⟩)
           | (refine cond_f ?_ ?_)
           | (refine ⟨_, ⟨by decide, rfl⟩, ?_⟩)
           | (refine cond_i (fun h => ?_) (fun h => ?_)))
  all_goals (conv => whnf)
  all_goals rfl
set_option maxHeartbeats 4000000 in
theorem line_5 (real node loc hop code value : Int) (key parent : Sp.Key) (root : Sp.Id) (r s nd lc kt ct vt J : ByteArray) (n1 : It real r) (n2 : Nm 5 s) (n3 : It node nd) (n4 : It loc lc) (n5 : Kt key kt) (m1 : It code ct) (m2 : It value vt) (nJ : Jn [r, s, ⟨#[97, 116]⟩, nd, lc, kt, ⟨#[99, 111, 100, 101]⟩, ct, ⟨#[118, 97, 108, 117, 101]⟩, vt] J) :
    Fv Tryd.prog 39 [.agg (⟨5, real, node, loc, key, parent, root, hop, code, value⟩ : Ev).g] (.str J) := by
  unfold It Nm Jn Kt at *
  simp only [List.map_cons, List.map_nil] at nJ
  refine Fv.of_awp Tryd.func39 rfl (by kernel_rfl) rfl (Nat.le_of_ble_eq_true rfl) ?_
  repeat' (conv => whnf
           first
           | (refine And.intro (by kernel_rfl) ?_)
           | (refine And.intro ⟨by kernel_rfl, by kernel_rfl⟩ ?_)
           | (refine Or.inl ⟨_, n1, ?_⟩)
           | (refine ⟨_, n1, ?_⟩)
           | (refine Or.inl ⟨_, n2, ?_⟩)
           | (refine ⟨_, n2, ?_⟩)
           | (refine Or.inl ⟨_, n3, ?_⟩)
           | (refine ⟨_, n3, ?_⟩)
           | (refine Or.inl ⟨_, n4, ?_⟩)
           | (refine ⟨_, n4, ?_⟩)
           | (refine Or.inl ⟨_, n5, ?_⟩)
           | (refine ⟨_, n5, ?_⟩)
           | (refine Or.inl ⟨_, m1, ?_⟩)
           | (refine ⟨_, m1, ?_⟩)
           | (refine Or.inl ⟨_, m2, ?_⟩)
           | (refine ⟨_, m2, ?_⟩)
           | (refine ⟨ap_ok rfl rfl rfl rfl, ?_⟩)
           | (refine Or.inl ?_)
           | (refine ⟨le_ok rfl, ?_⟩)
           | (refine Or.inl ⟨_, nJ, ?_⟩)
           | (refine ⟨_, nJ, ?_⟩)
           | (refine cond_f ?_ ?_)
           | (refine ⟨_, ⟨by decide, rfl⟩, ?_⟩)
           | (refine cond_i (fun h => ?_) (fun h => ?_)))
  all_goals (conv => whnf)
  all_goals rfl
set_option maxHeartbeats 4000000 in
theorem line_6 (real node loc hop code value : Int) (key parent : Sp.Key) (root : Sp.Id) (r s nd lc kt ct vt J : ByteArray) (n1 : It real r) (n2 : Nm 6 s) (n3 : It node nd) (n4 : It loc lc) (n5 : Kt key kt) (m1 : It code ct) (m2 : It value vt) (nJ : Jn [r, s, ⟨#[97, 116]⟩, nd, lc, kt, ⟨#[99, 111, 100, 101]⟩, ct, ⟨#[118, 97, 108, 117, 101]⟩, vt] J) :
    Fv Tryd.prog 39 [.agg (⟨6, real, node, loc, key, parent, root, hop, code, value⟩ : Ev).g] (.str J) := by
  unfold It Nm Jn Kt at *
  simp only [List.map_cons, List.map_nil] at nJ
  refine Fv.of_awp Tryd.func39 rfl (by kernel_rfl) rfl (Nat.le_of_ble_eq_true rfl) ?_
  repeat' (conv => whnf
           first
           | (refine And.intro (by kernel_rfl) ?_)
           | (refine And.intro ⟨by kernel_rfl, by kernel_rfl⟩ ?_)
           | (refine Or.inl ⟨_, n1, ?_⟩)
           | (refine ⟨_, n1, ?_⟩)
           | (refine Or.inl ⟨_, n2, ?_⟩)
           | (refine ⟨_, n2, ?_⟩)
           | (refine Or.inl ⟨_, n3, ?_⟩)
           | (refine ⟨_, n3, ?_⟩)
           | (refine Or.inl ⟨_, n4, ?_⟩)
           | (refine ⟨_, n4, ?_⟩)
           | (refine Or.inl ⟨_, n5, ?_⟩)
           | (refine ⟨_, n5, ?_⟩)
           | (refine Or.inl ⟨_, m1, ?_⟩)
           | (refine ⟨_, m1, ?_⟩)
           | (refine Or.inl ⟨_, m2, ?_⟩)
           | (refine ⟨_, m2, ?_⟩)
           | (refine ⟨ap_ok rfl rfl rfl rfl, ?_⟩)
           | (refine Or.inl ?_)
           | (refine ⟨le_ok rfl, ?_⟩)
           | (refine Or.inl ⟨_, nJ, ?_⟩)
           | (refine ⟨_, nJ, ?_⟩)
           | (refine cond_f ?_ ?_)
           | (refine ⟨_, ⟨by decide, rfl⟩, ?_⟩)
           | (refine cond_i (fun h => ?_) (fun h => ?_)))
  all_goals (conv => whnf)
  all_goals rfl
set_option maxHeartbeats 4000000 in
theorem line_7 (real node loc hop code value : Int) (key parent : Sp.Key) (root : Sp.Id) (r s nd lc kt ct vt J : ByteArray) (n1 : It real r) (n2 : Nm 7 s) (n3 : It node nd) (n4 : It loc lc) (n5 : Kt key kt) (m1 : It code ct) (m2 : It value vt) (nJ : Jn [r, s, ⟨#[97, 116]⟩, nd, lc, kt, ⟨#[99, 111, 100, 101]⟩, ct, ⟨#[118, 97, 108, 117, 101]⟩, vt] J) :
    Fv Tryd.prog 39 [.agg (⟨7, real, node, loc, key, parent, root, hop, code, value⟩ : Ev).g] (.str J) := by
  unfold It Nm Jn Kt at *
  simp only [List.map_cons, List.map_nil] at nJ
  refine Fv.of_awp Tryd.func39 rfl (by kernel_rfl) rfl (Nat.le_of_ble_eq_true rfl) ?_
  repeat' (conv => whnf
           first
           | (refine And.intro (by kernel_rfl) ?_)
           | (refine And.intro ⟨by kernel_rfl, by kernel_rfl⟩ ?_)
           | (refine Or.inl ⟨_, n1, ?_⟩)
           | (refine ⟨_, n1, ?_⟩)
           | (refine Or.inl ⟨_, n2, ?_⟩)
           | (refine ⟨_, n2, ?_⟩)
           | (refine Or.inl ⟨_, n3, ?_⟩)
           | (refine ⟨_, n3, ?_⟩)
           | (refine Or.inl ⟨_, n4, ?_⟩)
           | (refine ⟨_, n4, ?_⟩)
           | (refine Or.inl ⟨_, n5, ?_⟩)
           | (refine ⟨_, n5, ?_⟩)
           | (refine Or.inl ⟨_, m1, ?_⟩)
           | (refine ⟨_, m1, ?_⟩)
           | (refine Or.inl ⟨_, m2, ?_⟩)
           | (refine ⟨_, m2, ?_⟩)
           | (refine ⟨ap_ok rfl rfl rfl rfl, ?_⟩)
           | (refine Or.inl ?_)
           | (refine ⟨le_ok rfl, ?_⟩)
           | (refine Or.inl ⟨_, nJ, ?_⟩)
           | (refine ⟨_, nJ, ?_⟩)
           | (refine cond_f ?_ ?_)
           | (refine ⟨_, ⟨by decide, rfl⟩, ?_⟩)
           | (refine cond_i (fun h => ?_) (fun h => ?_)))
  all_goals (conv => whnf)
  all_goals rfl
set_option maxHeartbeats 4000000 in
theorem line_1 (real node loc hop code value : Int) (key parent : Sp.Key) (root : Sp.Id) (r s nd lc kt vt J : ByteArray) (n1 : It real r) (n2 : Nm 1 s) (n3 : It node nd) (n4 : It loc lc) (n5 : Kt key kt) (m1 : It value vt) (nJ : Jn [r, s, ⟨#[97, 116]⟩, nd, lc, kt, ⟨#[118, 97, 108, 117, 101]⟩, vt] J) :
    Fv Tryd.prog 39 [.agg (⟨1, real, node, loc, key, parent, root, hop, code, value⟩ : Ev).g] (.str J) := by
  unfold It Nm Jn Kt at *
  simp only [List.map_cons, List.map_nil] at nJ
  refine Fv.of_awp Tryd.func39 rfl (by kernel_rfl) rfl (Nat.le_of_ble_eq_true rfl) ?_
  repeat' (conv => whnf
           first
           | (refine And.intro (by kernel_rfl) ?_)
           | (refine And.intro ⟨by kernel_rfl, by kernel_rfl⟩ ?_)
           | (refine Or.inl ⟨_, n1, ?_⟩)
           | (refine ⟨_, n1, ?_⟩)
           | (refine Or.inl ⟨_, n2, ?_⟩)
           | (refine ⟨_, n2, ?_⟩)
           | (refine Or.inl ⟨_, n3, ?_⟩)
           | (refine ⟨_, n3, ?_⟩)
           | (refine Or.inl ⟨_, n4, ?_⟩)
           | (refine ⟨_, n4, ?_⟩)
           | (refine Or.inl ⟨_, n5, ?_⟩)
           | (refine ⟨_, n5, ?_⟩)
           | (refine Or.inl ⟨_, m1, ?_⟩)
           | (refine ⟨_, m1, ?_⟩)
           | (refine ⟨ap_ok rfl rfl rfl rfl, ?_⟩)
           | (refine Or.inl ?_)
           | (refine ⟨le_ok rfl, ?_⟩)
           | (refine Or.inl ⟨_, nJ, ?_⟩)
           | (refine ⟨_, nJ, ?_⟩)
           | (refine cond_f ?_ ?_)
           | (refine ⟨_, ⟨by decide, rfl⟩, ?_⟩)
           | (refine cond_i (fun h => ?_) (fun h => ?_)))
  all_goals (conv => whnf)
  all_goals rfl
set_option maxHeartbeats 4000000 in
theorem line_10 (real node loc hop code value : Int) (key parent : Sp.Key) (root : Sp.Id) (r s nd lc kt vt J : ByteArray) (n1 : It real r) (n2 : Nm 10 s) (n3 : It node nd) (n4 : It loc lc) (n5 : Kt key kt) (m1 : It value vt) (nJ : Jn [r, s, ⟨#[97, 116]⟩, nd, lc, kt, ⟨#[118, 97, 108, 117, 101]⟩, vt] J) :
    Fv Tryd.prog 39 [.agg (⟨10, real, node, loc, key, parent, root, hop, code, value⟩ : Ev).g] (.str J) := by
  unfold It Nm Jn Kt at *
  simp only [List.map_cons, List.map_nil] at nJ
  refine Fv.of_awp Tryd.func39 rfl (by kernel_rfl) rfl (Nat.le_of_ble_eq_true rfl) ?_
  repeat' (conv => whnf
           first
           | (refine And.intro (by kernel_rfl) ?_)
           | (refine And.intro ⟨by kernel_rfl, by kernel_rfl⟩ ?_)
           | (refine Or.inl ⟨_, n1, ?_⟩)
           | (refine ⟨_, n1, ?_⟩)
           | (refine Or.inl ⟨_, n2, ?_⟩)
           | (refine ⟨_, n2, ?_⟩)
           | (refine Or.inl ⟨_, n3, ?_⟩)
           | (refine ⟨_, n3, ?_⟩)
           | (refine Or.inl ⟨_, n4, ?_⟩)
           | (refine ⟨_, n4, ?_⟩)
           | (refine Or.inl ⟨_, n5, ?_⟩)
           | (refine ⟨_, n5, ?_⟩)
           | (refine Or.inl ⟨_, m1, ?_⟩)
           | (refine ⟨_, m1, ?_⟩)
           | (refine ⟨ap_ok rfl rfl rfl rfl, ?_⟩)
           | (refine Or.inl ?_)
           | (refine ⟨le_ok rfl, ?_⟩)
           | (refine Or.inl ⟨_, nJ, ?_⟩)
           | (refine ⟨_, nJ, ?_⟩)
           | (refine cond_f ?_ ?_)
           | (refine ⟨_, ⟨by decide, rfl⟩, ?_⟩)
           | (refine cond_i (fun h => ?_) (fun h => ?_)))
  all_goals (conv => whnf)
  all_goals rfl
set_option maxHeartbeats 4000000 in
theorem line_o (kind real node loc hop code value : Int) (key parent : Sp.Key) (root : Sp.Id) (r s nd lc kt J : ByteArray) (n1 : It real r) (n2 : Nm kind s) (n3 : It node nd) (n4 : It loc lc) (n5 : Kt key kt) (nJ : Jn [r, s, ⟨#[97, 116]⟩, nd, lc, kt] J)
    (b9 : (kind != 9) = true) (b2 : (kind == 2) = false) (b3 : (kind == 3) = false) (b5 : (kind == 5) = false) (b7 : (kind == 7) = false) (b6 : (kind == 6) = false) (b1 : (kind == 1) = false) (b10 : (kind == 10) = false) :
    Fv Tryd.prog 39 [.agg (⟨kind, real, node, loc, key, parent, root, hop, code, value⟩ : Ev).g] (.str J) := by
  unfold It Nm Jn Kt at *
  simp only [List.map_cons, List.map_nil] at nJ
  refine Fv.of_awp Tryd.func39 rfl (by kernel_rfl) rfl (Nat.le_of_ble_eq_true rfl) ?_
  repeat' (conv => whnf
           first
           | (refine And.intro (by kernel_rfl) ?_)
           | (refine And.intro ⟨by kernel_rfl, by kernel_rfl⟩ ?_)
           | (refine Or.inl ⟨_, n1, ?_⟩)
           | (refine ⟨_, n1, ?_⟩)
           | (refine Or.inl ⟨_, n2, ?_⟩)
           | (refine ⟨_, n2, ?_⟩)
           | (refine Or.inl ⟨_, n3, ?_⟩)
           | (refine ⟨_, n3, ?_⟩)
           | (refine Or.inl ⟨_, n4, ?_⟩)
           | (refine ⟨_, n4, ?_⟩)
           | (refine Or.inl ⟨_, n5, ?_⟩)
           | (refine ⟨_, n5, ?_⟩)
           | (refine cond_1 b9 ?_)
           | (refine cond_0 b2 ?_)
           | (refine cond_0 b3 ?_)
           | (refine cond_0 b5 ?_)
           | (refine cond_0 b7 ?_)
           | (refine cond_0 b6 ?_)
           | (refine cond_0 b1 ?_)
           | (refine cond_0 b10 ?_)
           | (refine ⟨ap_ok rfl rfl rfl rfl, ?_⟩)
           | (refine Or.inl ?_)
           | (refine ⟨le_ok rfl, ?_⟩)
           | (refine Or.inl ⟨_, nJ, ?_⟩)
           | (refine ⟨_, nJ, ?_⟩)
           | (refine cond_f ?_ ?_)
           | (refine ⟨_, ⟨by decide, rfl⟩, ?_⟩)
           | (refine cond_i (fun h => ?_) (fun h => ?_)))
  all_goals (conv => whnf)
  all_goals rfl
end Go.Proofs.YtcihkmnolagdlaaDoor.Cn
