/- One text out of several: Cn98, Cn101, Cn104, Cn105, Sp6, Cn100, Cn90, Cn102, Cn103, Cn106, Cn107, Cn108, Cn110, Cn109, Cn111, Cn112. No condition but theirs. -/
import Derived.Test.YtcihkmnolagdlaaDoorProg
import Derived.KernelRfl
import Derived.Test.YtcihkmnolagdlaaDoorZEventTells4
namespace Go.Proofs.YtcihkmnolagdlaaDoor.Cn
open Go Go.Proofs Go.Proofs.YtcihkmnolagdlaaDoor.Av Go.Proofs.YtcihkmnolagdlaaDoor.Sp
set_option linter.unusedVariables false
set_option linter.unusedSimpArgs false
set_option linter.unusedSectionVars false
set_option maxRecDepth 100000
attribute [local irreducible] Fv Fp

def exEv : Ev := ⟨9, 7, 2, 9, ⟨⟨0, 0, 0⟩, 0⟩, ⟨⟨0, 0, 0⟩, 0⟩, ⟨0, 0, 0⟩, 0, 0, 0⟩
def lineB : ByteArray := ⟨#[55, 32, 99, 114, 97, 115, 104, 101, 100, 32, 97, 116, 32, 50, 32, 57]⟩
theorem awake_of (s : ByteArray) (r : List G) (e1 : strEq s ⟨#[55, 32, 99, 114, 97, 115, 104, 101, 100, 32, 97, 116, 32, 50, 32, 57]⟩ = true) (n1 : Fv Tryd.prog 39 [.agg exEv.g] (.str s))
    (n2 : Fv Tryd.prog 11 [.sl [exEv.g], .int .i64 9] (.sl [r])) : Fv Tryd.prog 10 [] (.bool true) := by
  refine Fv.of_awp Tryd.func10 rfl (by kernel_rfl) rfl (Nat.le_of_ble_eq_true rfl) ?_
  repeat' (conv => whnf
           first
           | (refine And.intro (by kernel_rfl) ?_)
           | (refine And.intro ⟨by kernel_rfl, by kernel_rfl⟩ ?_)
           | (refine Or.inl ⟨_, n1, ?_⟩)
           | (refine ⟨_, n1, ?_⟩)
           | (refine cond_1 e1 ?_)
           | (refine Or.inl ⟨_, n2, ?_⟩)
           | (refine ⟨_, n2, ?_⟩)
           | (refine cond_f ?_ ?_)
           | (refine ⟨_, ⟨by decide, rfl⟩, ?_⟩)
           | (refine cond_i (fun h => ?_) (fun h => ?_)))
  all_goals (conv => whnf)
  all_goals rfl
end Go.Proofs.YtcihkmnolagdlaaDoor.Cn
namespace Go.Proofs.YtcihkmnolagdlaaDoor.Cn
open Go Go.Proofs Go.Proofs.YtcihkmnolagdlaaDoor.Av Go.Proofs.YtcihkmnolagdlaaDoor.Sp
set_option linter.unusedVariables false
set_option linter.unusedSimpArgs false
set_option linter.unusedSectionVars false
set_option maxRecDepth 100000
attribute [local irreducible] Fv Fp

def i64 (n : Int) : Prop := -9223372036854775808 ≤ n ∧ n ≤ 9223372036854775807
theorem decs_le : ∀ (k n : Nat), n < 10 ^ (k + 1) → (Lib.decDigits n).length ≤ k + 1
  | 0, n, h => by rw [Lib.decDigits, dif_pos (by simpa using h)]; exact Nat.le_refl _
  | k + 1, n, h => by
    by_cases h0 : n < 10
    · rw [Lib.decDigits, dif_pos h0]; simp
    · rw [Lib.decDigits, dif_neg h0]
      have := decs_le k (n / 10) (by rw [Nat.pow_succ] at h; omega)
      simp only [List.length_append, List.length_cons, List.length_nil]
      omega
def itB (n : Int) : ByteArray := strL' (Lib.itoa n)
theorem itB_size {n : Int} (h : i64 n) : (itB n).size ≤ 20 := by
  have e : (itB n).size = (Lib.itoa n).length := by show (Lib.itoa n).toArray.size = _; simp
  rw [e]
  obtain ⟨h1, h2⟩ := h
  unfold Lib.itoa
  split
  · have := decs_le 18 n.natAbs (by omega)
    simp only [List.length_cons]; omega
  · have := decs_le 18 n.toNat (by omega)
    omega
theorem it_Itoa (n : Int) (h : i64 n) : Fv Tryd.prog 53 [.int .i64 n] (.str (itB n)) := ev_Itoa n h
def idB (d : Sp.Id) : ByteArray := itB d.node ++ ⟨#[46]⟩ ++ itB d.inc ++ ⟨#[46]⟩ ++ itB d.seq
def okId (d : Sp.Id) : Prop := i64 d.node ∧ i64 d.inc ∧ i64 d.seq
theorem sz_ok {x y : ByteArray} {K : Prop} (h : x.size + y.size ≤ 9223372036854775807) (k : K) : ((x.size + y.size : Nat) : Int) ≤ 9223372036854775807 ∧ K := ⟨by omega, k⟩
theorem id_text (a b c : ByteArray) (d : Sp.Id) (ha : a.size ≤ 20) (hb : b.size ≤ 20) (hc : c.size ≤ 20) (n1 : Fv Tryd.prog 53 [.int .i64 d.node] (.str a)) (n2 : Fv Tryd.prog 53 [.int .i64 d.inc] (.str b)) (n3 : Fv Tryd.prog 53 [.int .i64 d.seq] (.str c)) :
    Fv Tryd.prog 56 [.agg d.g] (.str (a ++ ⟨#[46]⟩ ++ b ++ ⟨#[46]⟩ ++ c)) := by
  have z0 : (⟨#[46]⟩ : ByteArray).size = 1 := rfl
  refine Fv.of_awp Tryd.func56 rfl (by kernel_rfl) rfl (Nat.le_of_ble_eq_true rfl) ?_
  repeat' (conv => whnf
           first
           | (refine And.intro (by kernel_rfl) ?_)
           | (refine And.intro ⟨by kernel_rfl, by kernel_rfl⟩ ?_)
           | (refine Or.inl ⟨_, n1, ?_⟩)
           | (refine ⟨_, n1, ?_⟩)
           | (refine Or.inl ⟨_, n2, ?_⟩)
           | (refine ⟨_, n2, ?_⟩)
           | (refine Or.inl ⟨_, n3, ?_⟩)
           | (refine ⟨_, n3, ?_⟩)
           | (refine sz_ok (by first | omega | (simp only [ByteArray.size_append]; omega)) ?_)
           | (refine cond_f ?_ ?_)
           | (refine ⟨_, ⟨by decide, rfl⟩, ?_⟩)
           | (refine cond_i (fun h => ?_) (fun h => ?_)))
  all_goals (conv => whnf)
  all_goals rfl
theorem ident_Text (d : Sp.Id) (h : okId d) : Fv Tryd.prog 56 [.agg d.g] (.str (idB d)) := by
  unfold idB
  exact id_text (itB d.node) (itB d.inc) (itB d.seq) d (itB_size h.1) (itB_size h.2.1) (itB_size h.2.2) (it_Itoa _ h.1) (it_Itoa _ h.2.1) (it_Itoa _ h.2.2)
theorem idB_size {d : Sp.Id} (h : okId d) : (idB d).size ≤ 62 := by
  have := itB_size h.1; have := itB_size h.2.1; have := itB_size h.2.2
  have z0 : (⟨#[46]⟩ : ByteArray).size = 1 := rfl
  unfold idB; rw [ByteArray.size_append, ByteArray.size_append, ByteArray.size_append, ByteArray.size_append]; omega
def keyB (k : Sp.Key) : ByteArray := idB k.id ++ ⟨#[47]⟩ ++ itB k.att
def okKey (k : Sp.Key) : Prop := okId k.id ∧ i64 k.att
theorem key_text (a b : ByteArray) (k : Sp.Key) (ha : a.size ≤ 62) (hb : b.size ≤ 20) (n1 : Fv Tryd.prog 56 [.agg k.id.g] (.str a)) (n2 : Fv Tryd.prog 53 [.int .i64 k.att] (.str b)) :
    Fv Tryd.prog 55 [.agg k.g] (.str (a ++ ⟨#[47]⟩ ++ b)) := by
  have z0 : (⟨#[47]⟩ : ByteArray).size = 1 := rfl
  refine Fv.of_awp Tryd.func55 rfl (by kernel_rfl) rfl (Nat.le_of_ble_eq_true rfl) ?_
  repeat' (conv => whnf
           first
           | (refine And.intro (by kernel_rfl) ?_)
           | (refine And.intro ⟨by kernel_rfl, by kernel_rfl⟩ ?_)
           | (refine Or.inl ⟨_, n1, ?_⟩)
           | (refine ⟨_, n1, ?_⟩)
           | (refine Or.inl ⟨_, n2, ?_⟩)
           | (refine ⟨_, n2, ?_⟩)
           | (refine sz_ok (by first | omega | (simp only [ByteArray.size_append]; omega)) ?_)
           | (refine cond_f ?_ ?_)
           | (refine ⟨_, ⟨by decide, rfl⟩, ?_⟩)
           | (refine cond_i (fun h => ?_) (fun h => ?_)))
  all_goals (conv => whnf)
  all_goals rfl
theorem ident_KeyText (k : Sp.Key) (h : okKey k) : Fv Tryd.prog 55 [.agg k.g] (.str (keyB k)) := by
  unfold keyB
  exact key_text (idB k.id) (itB k.att) k (idB_size h.1) (itB_size h.2) (ident_Text _ h.1) (it_Itoa _ h.2)
theorem keyB_size {k : Sp.Key} (h : okKey k) : (keyB k).size ≤ 83 := by
  have := idB_size h.1; have := itB_size h.2
  have z0 : (⟨#[47]⟩ : ByteArray).size = 1 := rfl
  unfold keyB; rw [ByteArray.size_append, ByteArray.size_append]; omega
end Go.Proofs.YtcihkmnolagdlaaDoor.Cn
namespace Go.Proofs.YtcihkmnolagdlaaDoor.Cn
open Go Go.Proofs Go.Proofs.YtcihkmnolagdlaaDoor.Av Go.Proofs.YtcihkmnolagdlaaDoor.Sp
set_option linter.unusedVariables false
set_option linter.unusedSimpArgs false
set_option linter.unusedSectionVars false
set_option maxRecDepth 100000
attribute [local irreducible] Fv Fp

theorem ap_ok {xs : List (List G)} {len m : Nat} (h1 : Nat.ble (0 + len) xs.length = true) (h2 : Nat.blt 0 len = true) (h3 : Nat.ble (len + m) 1000 = true) (h4 : xs.all (fun r => Nat.beq r.length 1) = true) :
    0 + len ≤ xs.length ∧ (0 < len + m ∨ xs = []) ∧ fitsB Tryd.prog 9 (len + m) ∧ ∀ r ∈ xs, r.length = Tryd.prog.cellsOf 9 := by
  have h1 := Nat.le_of_ble_eq_true h1
  have h2 := Nat.le_of_ble_eq_true h2
  have h3 := Nat.le_of_ble_eq_true h3
  refine ⟨h1, .inl (by omega), fits 16 (by kernel_rfl) (by omega), fun r hr => ?_⟩
  rw [show Tryd.prog.cellsOf 9 = 1 from by kernel_rfl]
  exact Nat.eq_of_beq_eq_true (List.all_eq_true.1 h4 r hr)
theorem le_ok {a b : Nat} (h : Nat.ble a b = true) : a ≤ b := Nat.le_of_ble_eq_true h
def Jn (l : List ByteArray) (J : ByteArray) : Prop := Fv Tryd.prog 57 [.sl (l.map strG'), .str ⟨#[32]⟩] (.str J)
def Nm (k : Int) (s : ByteArray) : Prop := Fv Tryd.prog 17 [.int .i64 k] (.str s)
def It (k : Int) (s : ByteArray) : Prop := Fv Tryd.prog 53 [.int .i64 k] (.str s)
def Kt (k : Sp.Key) (s : ByteArray) : Prop := Fv Tryd.prog 55 [.agg k.g] (.str s)
set_option maxHeartbeats 4000000 in
theorem line_9 (real node loc hop code value : Int) (key parent : Sp.Key) (root : Sp.Id) (r s nd lc J : ByteArray) (n1 : It real r) (n2 : Nm 9 s) (n3 : It node nd) (n4 : It loc lc) (nJ : Jn [r, s, ⟨#[97, 116]⟩, nd, lc] J) :
    Fv Tryd.prog 39 [.agg (⟨9, real, node, loc, key, parent, root, hop, code, value⟩ : Ev).g] (.str J) := by
  unfold It Nm Jn at *
  simp only [List.map_cons, List.map_nil] at nJ
  refine Fv.of_awp Tryd.func39 rfl (by kernel_rfl) rfl (Nat.le_of_ble_eq_true rfl) ?_
  repeat' (conv => whnf
           first
           | (refine And.intro (by kernel_rfl) ?_)
           | (refine And.intro ⟨by kernel_rfl, by kernel_rfl⟩ ?_)
           | (refine Or.inl ⟨_, n1, ?_⟩)
           | (refine ⟨_, n1, ?_⟩)
           | (refine Or.inl ⟨_, n2, ?_⟩)
           | (refine ⟨_, n2, ?_⟩)
           | (refine Or.inl ⟨_, n3, ?_⟩)
           | (refine ⟨_, n3, ?_⟩)
           | (refine Or.inl ⟨_, n4, ?_⟩)
           | (refine ⟨_, n4, ?_⟩)
           | (refine Or.inl ?_)
           | (refine ⟨le_ok rfl, ?_⟩)
           | (refine Or.inl ⟨_, nJ, ?_⟩)
           | (refine ⟨_, nJ, ?_⟩)
           | (refine cond_f ?_ ?_)
           | (refine ⟨_, ⟨by decide, rfl⟩, ?_⟩)
           | (refine cond_i (fun h => ?_) (fun h => ?_)))
  all_goals (conv => whnf)
  all_goals rfl
set_option maxHeartbeats 4000000 in
theorem line_2 (real node loc hop code value : Int) (key parent : Sp.Key) (root : Sp.Id) (r s nd lc kt pt rt ht J : ByteArray) (n1 : It real r) (n2 : Nm 2 s) (n3 : It node nd) (n4 : It loc lc) (n5 : Kt key kt) (m1 : Kt parent pt) (m2 : Fv Tryd.prog 56 [.agg root.g] (.str rt)) (m3 : It hop ht) (nJ : Jn [r, s, ⟨#[97, 116]⟩, nd, lc, kt, ⟨#[98, 121]⟩, pt, ⟨#[117, 110, 100, 101, 114]⟩, rt, ⟨#[104, 111, 112]⟩, ht] J) :
    Fv Tryd.prog 39 [.agg (⟨2, real, node, loc, key, parent, root, hop, code, value⟩ : Ev).g] (.str J) := by
  unfold It Nm Jn Kt at *
  simp only [List.map_cons, List.map_nil] at nJ
  refine Fv.of_awp Tryd.func39 rfl (by kernel_rfl) rfl (Nat.le_of_ble_eq_true rfl) ?_
  repeat' (conv => whnf
           first
           | (refine And.intro (by kernel_rfl) ?_)
           | (refine And.intro ⟨by kernel_rfl, by kernel_rfl⟩ ?_)
           | (refine Or.inl ⟨_, n1, ?_⟩)
           | (refine ⟨_, n1, ?_⟩)
           | (refine Or.inl ⟨_, n2, ?_⟩)
           | (refine ⟨_, n2, ?_⟩)
           | (refine Or.inl ⟨_, n3, ?_⟩)
           | (refine ⟨_, n3, ?_⟩)
           | (refine Or.inl ⟨_, n4, ?_⟩)
           | (refine ⟨_, n4, ?_⟩)
           | (refine Or.inl ⟨_, n5, ?_⟩)
           | (refine ⟨_, n5, ?_⟩)
           | (refine Or.inl ⟨_, m1, ?_⟩)
           | (refine ⟨_, m1, ?_⟩)
           | (refine Or.inl ⟨_, m2, ?_⟩)
           | (refine ⟨_, m2, ?_⟩)
           | (refine Or.inl ⟨_, m3, ?_⟩)
           | (refine ⟨_, m3, ?_⟩)
           | (refine ⟨ap_ok rfl rfl rfl rfl, ?_⟩)
           | (refine Or.inl ?_)
           | (refine ⟨le_ok rfl, ?_⟩)
           | (refine Or.inl ⟨_, nJ, ?_⟩)
           | (refine ⟨_, nJ, ?_⟩)
           | (refine cond_f ?_ ?_)
           | (refine ⟨_, ⟨by decide, rfl⟩, ?_⟩)
           | (refine cond_i (fun h => ?_) (fun h => ?_)))
  all_goals (conv => whnf)
  all_goals rfl
set_option maxHeartbeats 4000000 in
theorem line_3 (real node loc hop code value : Int) (key parent : Sp.Key) (root : Sp.Id) (r s nd lc kt pt rt ht J : ByteArray) (n1 : It real r) (n2 : Nm 3 s) (n3 : It node nd) (n4 : It loc lc) (n5 : Kt key kt) (m1 : Kt parent pt) (m2 : Fv Tryd.prog 56 [.agg root.g] (.str rt)) (m3 : It hop ht) (nJ : Jn [r, s, ⟨#[97, 116]⟩, nd, lc, kt, ⟨#[98, 121]⟩, pt, ⟨#[117, 110, 100, 101, 114]⟩, rt, ⟨#[104, 111, 112]⟩, ht] J) :
    Fv Tryd.prog 39 [.agg (⟨3, real, node, loc, key, parent, root, hop, code, value⟩ : Ev).g] (.str J) := by
  unfold It Nm Jn Kt at *
  simp only [List.map_cons, List.map_nil] at nJ
  refine Fv.of_awp Tryd.func39 rfl (by kernel_rfl) rfl (Nat.le_of_ble_eq_true rfl) ?_
  repeat' (conv => whnf
           first
           | (refine And.intro (by kernel_rfl) ?_)
           | (refine And.intro ⟨by kernel_rfl, by kernel_rfl⟩ ?_)
           | (refine Or.inl ⟨_, n1, ?_⟩)
           | (refine ⟨_, n1, ?_⟩)
           | (refine Or.inl ⟨_, n2, ?_⟩)
           | (refine ⟨_, n2, ?_⟩)
           | (refine Or.inl ⟨_, n3, ?_⟩)
           | (refine ⟨_, n3, ?_⟩)
           | (refine Or.inl ⟨_, n4, ?_⟩)
           | (refine ⟨_, n4, ?_⟩)
           | (refine Or.inl ⟨_, n5, ?_⟩)
           | (refine ⟨_, n5, ?_⟩)
           | (refine Or.inl ⟨_, m1, ?_⟩)
           | (refine ⟨_, m1, ?_⟩)
           | (refine Or.inl ⟨_, m2, ?_⟩)
           | (refine ⟨_, m2, ?_⟩)
           | (refine Or.inl ⟨_, m3, ?_⟩)
           | (refine ⟨_, m3, ?_⟩)
           | (refine ⟨ap_ok rfl rfl rfl rfl, ?_⟩)
           | (refine Or.inl ?_)
           | (refine ⟨le_ok rfl, ?_⟩)
           | (refine Or.inl ⟨_, nJ, ?_⟩)
           | (refine ⟨_, nJ, ?_⟩)
           | (refine cond_f ?_ ?_)
           | (refine ⟨_, ⟨by decide, rfl⟩, ?_⟩)
           | (refine cond_i (fun h => ?_) (fun h => ?_)))
  all_goals (conv => whnf)
  all_goals rfl
set_option maxHeartbeats 4000000 in
theorem line_5 (real node loc hop code value : Int) (key parent : Sp.Key) (root : Sp.Id) (r s nd lc kt ct vt J : ByteArray) (n1 : It real r) (n2 : Nm 5 s) (n3 : It node nd) (n4 : It loc lc) (n5 : Kt key kt) (m1 : It code ct) (m2 : It value vt) (nJ : Jn [r, s, ⟨#[97, 116]⟩, nd, lc, kt, ⟨#[99, 111, 100, 101]⟩, ct, ⟨#[118, 97, 108, 117, 101]⟩, vt] J) :
    Fv Tryd.prog 39 [.agg (⟨5, real, node, loc, key, parent, root, hop, code, value⟩ : Ev).g] (.str J) := by
  unfold It Nm Jn Kt at *
  simp only [List.map_cons, List.map_nil] at nJ
  refine Fv.of_awp Tryd.func39 rfl (by kernel_rfl) rfl (Nat.le_of_ble_eq_true rfl) ?_
  repeat' (conv => whnf
           first
           | (refine And.intro (by kernel_rfl) ?_)
           | (refine And.intro ⟨by kernel_rfl, by kernel_rfl⟩ ?_)
           | (refine Or.inl ⟨_, n1, ?_⟩)
           | (refine ⟨_, n1, ?_⟩)
           | (refine Or.inl ⟨_, n2, ?_⟩)
           | (refine ⟨_, n2, ?_⟩)
           | (refine Or.inl ⟨_, n3, ?_⟩)
           | (refine ⟨_, n3, ?_⟩)
           | (refine Or.inl ⟨_, n4, ?_⟩)
           | (refine ⟨_, n4, ?_⟩)
           | (refine Or.inl ⟨_, n5, ?_⟩)
           | (refine ⟨_, n5, ?_⟩)
           | (refine Or.inl ⟨_, m1, ?_⟩)
           | (refine ⟨_, m1, ?_⟩)
           | (refine Or.inl ⟨_, m2, ?_⟩)
           | (refine ⟨_, m2, ?_⟩)
           | (refine ⟨ap_ok rfl rfl rfl rfl, ?_⟩)
           | (refine Or.inl ?_)
           | (refine ⟨le_ok rfl, ?_⟩)
           | (refine Or.inl ⟨_, nJ, ?_⟩)
           | (refine ⟨_, nJ, ?_⟩)
           | (refine cond_f ?_ ?_)
           | (refine ⟨_, ⟨by decide, rfl⟩, ?_⟩)
           | (refine cond_i (fun h => ?_) (fun h => ?_)))
  all_goals (conv => whnf)
  all_goals rfl
set_option maxHeartbeats 4000000 in
theorem line_6 (real node loc hop code value : Int) (key parent : Sp.Key) (root : Sp.Id) (r s nd lc kt ct vt J : ByteArray) (n1 : It real r) (n2 : Nm 6 s) (n3 : It node nd) (n4 : It loc lc) (n5 : Kt key kt) (m1 : It code ct) (m2 : It value vt) (nJ : Jn [r, s, ⟨#[97, 116]⟩, nd, lc, kt, ⟨#[99, 111, 100, 101]⟩, ct, ⟨#[118, 97, 108, 117, 101]⟩, vt] J) :
    Fv Tryd.prog 39 [.agg (⟨6, real, node, loc, key, parent, root, hop, code, value⟩ : Ev).g] (.str J) := by
  unfold It Nm Jn Kt at *
  simp only [List.map_cons, List.map_nil] at nJ
  refine Fv.of_awp Tryd.func39 rfl (by kernel_rfl) rfl (Nat.le_of_ble_eq_true rfl) ?_
  repeat' (conv => whnf
           first
           | (refine And.intro (by kernel_rfl) ?_)
           | (refine And.intro ⟨by kernel_rfl, by kernel_rfl⟩ ?_)
           | (refine Or.inl ⟨_, n1, ?_⟩)
           | (refine ⟨_, n1, ?_⟩)
           | (refine Or.inl ⟨_, n2, ?_⟩)
           | (refine ⟨_, n2, ?_⟩)
           | (refine Or.inl ⟨_, n3, ?_⟩)
           | (refine ⟨_, n3, ?_⟩)
           | (refine Or.inl ⟨_, n4, ?_⟩)
           | (refine ⟨_, n4, ?_⟩)
           | (refine Or.inl ⟨_, n5, ?_⟩)
           | (refine ⟨_, n5, ?_⟩)
           | (refine Or.inl ⟨_, m1, ?_⟩)
           | (refine ⟨_, m1, ?_⟩)
           | (refine Or.inl ⟨_, m2, ?_⟩)
           | (refine ⟨_, m2, ?_⟩)
           | (refine ⟨ap_ok rfl rfl rfl rfl, ?_⟩)
           | (refine Or.inl ?_)
           | (refine ⟨le_ok rfl, ?_⟩)
           | (refine Or.inl ⟨_, nJ, ?_⟩)
           | (refine ⟨_, nJ, ?_⟩)
           | (refine cond_f ?_ ?_)
           | (refine ⟨_, ⟨by decide, rfl⟩, ?_⟩)
           | (refine cond_i (fun h => ?_) (fun h => ?_)))
  all_goals (conv => whnf)
  all_goals rfl
set_option maxHeartbeats 4000000 in
theorem line_7 (real node loc hop code value : Int) (key parent : Sp.Key) (root : Sp.Id) (r s nd lc kt ct vt J : ByteArray) (n1 : It real r) (n2 : Nm 7 s) (n3 : It node nd) (n4 : It loc lc) (n5 : Kt key kt) (m1 : It code ct) (m2 : It value vt) (nJ : Jn [r, s, ⟨#[97, 116]⟩, nd, lc, kt, ⟨#[99, 111, 100, 101]⟩, ct, ⟨#[118, 97, 108, 117, 101]⟩, vt] J) :
    Fv Tryd.prog 39 [.agg (⟨7, real, node, loc, key, parent, root, hop, code, value⟩ : Ev).g] (.str J) := by
  unfold It Nm Jn Kt at *
  simp only [List.map_cons, List.map_nil] at nJ
  refine Fv.of_awp Tryd.func39 rfl (by kernel_rfl) rfl (Nat.le_of_ble_eq_true rfl) ?_
  repeat' (conv => whnf
           first
           | (refine And.intro (by kernel_rfl) ?_)
           | (refine And.intro ⟨by kernel_rfl, by kernel_rfl⟩ ?_)
           | (refine Or.inl ⟨_, n1, ?_⟩)
           | (refine ⟨_, n1, ?_⟩)
           | (refine Or.inl ⟨_, n2, ?_⟩)
           | (refine ⟨_, n2, ?_⟩)
           | (refine Or.inl ⟨_, n3, ?_⟩)
           | (refine ⟨_, n3, ?_⟩)
           | (refine Or.inl ⟨_, n4, ?_⟩)
           | (refine ⟨_, n4, ?_⟩)
           | (refine Or.inl ⟨_, n5, ?_⟩)
           | (refine ⟨_, n5, ?_⟩)
           | (refine Or.inl ⟨_, m1, ?_⟩)
           | (refine ⟨_, m1, ?_⟩)
           | (refine Or.inl ⟨_, m2, ?_⟩)
           | (refine ⟨_, m2, ?_⟩)
           | (refine ⟨ap_ok rfl rfl rfl rfl, ?_⟩)
           | (refine Or.inl ?_)
           | (refine ⟨le_ok rfl, ?_⟩)
           | (refine Or.inl ⟨_, nJ, ?_⟩)
           | (refine ⟨_, nJ, ?_⟩)
           | (refine cond_f ?_ ?_)
           | (refine ⟨_, ⟨by decide, rfl⟩, ?_⟩)
           | (refine cond_i (fun h => ?_) (fun h => ?_)))
  all_goals (conv => whnf)
  all_goals rfl
set_option maxHeartbeats 4000000 in
theorem line_1 (real node loc hop code value : Int) (key parent : Sp.Key) (root : Sp.Id) (r s nd lc kt vt J : ByteArray) (n1 : It real r) (n2 : Nm 1 s) (n3 : It node nd) (n4 : It loc lc) (n5 : Kt key kt) (m1 : It value vt) (nJ : Jn [r, s, ⟨#[97, 116]⟩, nd, lc, kt, ⟨#[118, 97, 108, 117, 101]⟩, vt] J) :
    Fv Tryd.prog 39 [.agg (⟨1, real, node, loc, key, parent, root, hop, code, value⟩ : Ev).g] (.str J) := by
  unfold It Nm Jn Kt at *
  simp only [List.map_cons, List.map_nil] at nJ
  refine Fv.of_awp Tryd.func39 rfl (by kernel_rfl) rfl (Nat.le_of_ble_eq_true rfl) ?_
  repeat' (conv => whnf
           first
           | (refine And.intro (by kernel_rfl) ?_)
           | (refine And.intro ⟨by kernel_rfl, by kernel_rfl⟩ ?_)
           | (refine Or.inl ⟨_, n1, ?_⟩)
           | (refine ⟨_, n1, ?_⟩)
           | (refine Or.inl ⟨_, n2, ?_⟩)
           | (refine ⟨_, n2, ?_⟩)
           | (refine Or.inl ⟨_, n3, ?_⟩)
           | (refine ⟨_, n3, ?_⟩)
           | (refine Or.inl ⟨_, n4, ?_⟩)
           | (refine ⟨_, n4, ?_⟩)
           | (refine Or.inl ⟨_, n5, ?_⟩)
           | (refine ⟨_, n5, ?_⟩)
           | (refine Or.inl ⟨_, m1, ?_⟩)
           | (refine ⟨_, m1, ?_⟩)
           | (refine ⟨ap_ok rfl rfl rfl rfl, ?_⟩)
           | (refine Or.inl ?_)
           | (refine ⟨le_ok rfl, ?_⟩)
           | (refine Or.inl ⟨_, nJ, ?_⟩)
           | (refine ⟨_, nJ, ?_⟩)
           | (refine cond_f ?_ ?_)
           | (refine ⟨_, ⟨by decide, rfl⟩, ?_⟩)
           | (refine cond_i (fun h => ?_) (fun h => ?_)))
  all_goals (conv => whnf)
  all_goals rfl
set_option maxHeartbeats 4000000 in
theorem line_10 (real node loc hop code value : Int) (key parent : Sp.Key) (root : Sp.Id) (r s nd lc kt vt J : ByteArray) (n1 : It real r) (n2 : Nm 10 s) (n3 : It node nd) (n4 : It loc lc) (n5 : Kt key kt) (m1 : It value vt) (nJ : Jn [r, s, ⟨#[97, 116]⟩, nd, lc, kt, ⟨#[118, 97, 108, 117, 101]⟩, vt] J) :
    Fv Tryd.prog 39 [.agg (⟨10, real, node, loc, key, parent, root, hop, code, value⟩ : Ev).g] (.str J) := by
  unfold It Nm Jn Kt at *
  simp only [List.map_cons, List.map_nil] at nJ
  refine Fv.of_awp Tryd.func39 rfl (by kernel_rfl) rfl (Nat.le_of_ble_eq_true rfl) ?_
  repeat' (conv => whnf
           first
           | (refine And.intro (by kernel_rfl) ?_)
           | (refine And.intro ⟨by kernel_rfl, by kernel_rfl⟩ ?_)
           | (refine Or.inl ⟨_, n1, ?_⟩)
           | (refine ⟨_, n1, ?_⟩)
           | (refine Or.inl ⟨_, n2, ?_⟩)
           | (refine ⟨_, n2, ?_⟩)
           | (refine Or.inl ⟨_, n3, ?_⟩)
           | (refine ⟨_, n3, ?_⟩)
           | (refine Or.inl ⟨_, n4, ?_⟩)
           | (refine ⟨_, n4, ?_⟩)
           | (refine Or.inl ⟨_, n5, ?_⟩)
           | (refine ⟨_, n5, ?_⟩)
           | (refine Or.inl ⟨_, m1, ?_⟩)
           | (refine ⟨_, m1, ?_⟩)
           | (refine ⟨ap_ok rfl rfl rfl rfl, ?_⟩)
           | (refine Or.inl ?_)
           | (refine ⟨le_ok rfl, ?_⟩)
           | (refine Or.inl ⟨_, nJ, ?_⟩)
           | (refine ⟨_, nJ, ?_⟩)
           | (refine cond_f ?_ ?_)
           | (refine ⟨_, ⟨by decide, rfl⟩, ?_⟩)
           | (refine cond_i (fun h => ?_) (fun h => ?_)))
  all_goals (conv => whnf)
  all_goals rfl
set_option maxHeartbeats 4000000 in
theorem line_o (kind real node loc hop code value : Int) (key parent : Sp.Key) (root : Sp.Id) (r s nd lc kt J : ByteArray) (n1 : It real r) (n2 : Nm kind s) (n3 : It node nd) (n4 : It loc lc) (n5 : Kt key kt) (nJ : Jn [r, s, ⟨#[97, 116]⟩, nd, lc, kt] J)
    (b9 : (kind != 9) = true) (b2 : (kind == 2) = false) (b3 : (kind == 3) = false) (b5 : (kind == 5) = false) (b7 : (kind == 7) = false) (b6 : (kind == 6) = false) (b1 : (kind == 1) = false) (b10 : (kind == 10) = false) :
    Fv Tryd.prog 39 [.agg (⟨kind, real, node, loc, key, parent, root, hop, code, value⟩ : Ev).g] (.str J) := by
  unfold It Nm Jn Kt at *
  simp only [List.map_cons, List.map_nil] at nJ
  refine Fv.of_awp Tryd.func39 rfl (by kernel_rfl) rfl (Nat.le_of_ble_eq_true rfl) ?_
  repeat' (conv => whnf
           first
           | (refine And.intro (by kernel_rfl) ?_)
           | (refine And.intro ⟨by kernel_rfl, by kernel_rfl⟩ ?_)
           | (refine Or.inl ⟨_, n1, ?_⟩)
           | (refine ⟨_, n1, ?_⟩)
           | (refine Or.inl ⟨_, n2, ?_⟩)
           | (refine ⟨_, n2, ?_⟩)
           | (refine Or.inl ⟨_, n3, ?_⟩)
           | (refine ⟨_, n3, ?_⟩)
           | (refine Or.inl ⟨_, n4, ?_⟩)
           | (refine ⟨_, n4, ?_⟩)
           | (refine Or.inl ⟨_, n5, ?_⟩)
           | (refine ⟨_, n5, ?_⟩)
           | (refine cond_1 b9 ?_)
           | (refine cond_0 b2 ?_)
           | (refine cond_0 b3 ?_)
           | (refine cond_0 b5 ?_)
           | (refine cond_0 b7 ?_)
           | (refine cond_0 b6 ?_)
           | (refine cond_0 b1 ?_)
           | (refine cond_0 b10 ?_)
           | (refine ⟨ap_ok rfl rfl rfl rfl, ?_⟩)
           | (refine Or.inl ?_)
           | (refine ⟨le_ok rfl, ?_⟩)
           | (refine Or.inl ⟨_, nJ, ?_⟩)
           | (refine ⟨_, nJ, ?_⟩)
           | (refine cond_f ?_ ?_)
           | (refine ⟨_, ⟨by decide, rfl⟩, ?_⟩)
           | (refine cond_i (fun h => ?_) (fun h => ?_)))
  all_goals (conv => whnf)
  all_goals rfl
end Go.Proofs.YtcihkmnolagdlaaDoor.Cn
namespace Go.Proofs.YtcihkmnolagdlaaDoor.Cn
open Go Go.Proofs Go.Proofs.YtcihkmnolagdlaaDoor.Av Go.Proofs.YtcihkmnolagdlaaDoor.Sp
set_option linter.unusedVariables false
set_option linter.unusedSimpArgs false
set_option linter.unusedSectionVars false
set_option maxRecDepth 100000
attribute [local irreducible] Fv Fp

def evN (k : Nat) : ByteArray := match evNames[k]? with
  | some [.str s] => s
  | _ => ⟨#[63]⟩
def nameB (k : Int) : ByteArray := if 1 ≤ k ∧ k ≤ 11 then evN k.toNat else ⟨#[63]⟩
theorem evN_at {k : Nat} (h : k < 12) : evNames[k]? = some [.str (evN k)] := by
  match k, h with
  | 0, _ => rfl
  | 1, _ => rfl
  | 2, _ => rfl
  | 3, _ => rfl
  | 4, _ => rfl
  | 5, _ => rfl
  | 6, _ => rfl
  | 7, _ => rfl
  | 8, _ => rfl
  | 9, _ => rfl
  | 10, _ => rfl
  | 11, _ => rfl
theorem evN_size {k : Nat} (h : k < 12) : (evN k).size ≤ 9 := by
  match k, h with
  | 0, _ => decide
  | 1, _ => decide
  | 2, _ => decide
  | 3, _ => decide
  | 4, _ => decide
  | 5, _ => decide
  | 6, _ => decide
  | 7, _ => decide
  | 8, _ => decide
  | 9, _ => decide
  | 10, _ => decide
  | 11, _ => decide
theorem nameB_size (k : Int) : (nameB k).size ≤ 9 := by
  unfold nameB
  split
  · exact evN_size (by omega)
  · decide
theorem name_at (k : Int) (s : ByteArray) (h1 : 1 ≤ k ∧ k ≤ 11) (f1 : 0 ≤ k ∧ evNames[k.toNat]? = some [.str s]) : Nm k s := by
  have b1 : decide (k < 1) = false := decide_eq_false (by omega)
  have b2 : decide (k > 11) = false := decide_eq_false (by omega)
  have n1 := ev_names
  unfold Nm
  refine Fv.of_awp Tryd.func17 rfl (by kernel_rfl) rfl (Nat.le_of_ble_eq_true rfl) ?_
  repeat' (conv => whnf
           first
           | (refine And.intro (by kernel_rfl) ?_)
           | (refine And.intro ⟨by kernel_rfl, by kernel_rfl⟩ ?_)
           | (refine cond_0 b1 ?_)
           | (refine cond_0 b2 ?_)
           | (refine Or.inl ⟨_, n1, ?_⟩)
           | (refine ⟨_, n1, ?_⟩)
           | (refine ⟨_, f1, ?_⟩)
           | (refine cond_f ?_ ?_)
           | (refine ⟨_, ⟨by decide, rfl⟩, ?_⟩)
           | (refine cond_i (fun h => ?_) (fun h => ?_)))
  all_goals (conv => whnf)
  all_goals rfl
theorem name_out (k : Int) (h1 : ¬ (1 ≤ k ∧ k ≤ 11)) : Nm k ⟨#[63]⟩ := by
  unfold Nm
  by_cases h2 : k < 1
  · have b1 : decide (k < 1) = true := decide_eq_true h2
    refine Fv.of_awp Tryd.func17 rfl (by kernel_rfl) rfl (Nat.le_of_ble_eq_true rfl) ?_
    repeat' (conv => whnf
             first
             | (refine And.intro (by kernel_rfl) ?_)
             | (refine And.intro ⟨by kernel_rfl, by kernel_rfl⟩ ?_)
             | (refine cond_1 b1 ?_)
             | (refine cond_f ?_ ?_)
             | (refine ⟨_, ⟨by decide, rfl⟩, ?_⟩)
             | (refine cond_i (fun h => ?_) (fun h => ?_)))
    all_goals (conv => whnf)
    all_goals rfl
  · have b1 : decide (k < 1) = false := decide_eq_false h2
    have b2 : decide (k > 11) = true := decide_eq_true (by omega)
    refine Fv.of_awp Tryd.func17 rfl (by kernel_rfl) rfl (Nat.le_of_ble_eq_true rfl) ?_
    repeat' (conv => whnf
             first
             | (refine And.intro (by kernel_rfl) ?_)
             | (refine And.intro ⟨by kernel_rfl, by kernel_rfl⟩ ?_)
             | (refine cond_0 b1 ?_)
             | (refine cond_1 b2 ?_)
             | (refine cond_f ?_ ?_)
             | (refine ⟨_, ⟨by decide, rfl⟩, ?_⟩)
             | (refine cond_i (fun h => ?_) (fun h => ?_)))
    all_goals (conv => whnf)
    all_goals rfl
theorem ev_Name (k : Int) : Nm k (nameB k) := by
  unfold nameB
  by_cases h : 1 ≤ k ∧ k ≤ 11
  · rw [if_pos h]; exact name_at k _ h ⟨by omega, evN_at (by omega)⟩
  · rw [if_neg h]; exact name_out k h
/-- What a line is made of. -/
def tailE (e : Ev) : List ByteArray :=
  if e.kind = 9 then [] else keyB e.key ::
    (if e.kind = 2 ∨ e.kind = 3 then [⟨#[98, 121]⟩, keyB e.parent, ⟨#[117, 110, 100, 101, 114]⟩, idB e.root, ⟨#[104, 111, 112]⟩, itB e.hop]
     else if e.kind = 5 ∨ e.kind = 6 ∨ e.kind = 7 then [⟨#[99, 111, 100, 101]⟩, itB e.code, ⟨#[118, 97, 108, 117, 101]⟩, itB e.value]
     else if e.kind = 1 ∨ e.kind = 10 then [⟨#[118, 97, 108, 117, 101]⟩, itB e.value] else [])
def partsE (e : Ev) : List ByteArray := [itB e.real, nameB e.kind, ⟨#[97, 116]⟩, itB e.node, itB e.loc] ++ tailE e
def joinL (l : List ByteArray) : List UInt8 := Lib.join (l.map (·.data.toList)) [32]
def lineE (e : Ev) : ByteArray := ⟨(joinL (partsE e)).toArray⟩
def okEv (e : Ev) : Prop := (i64 e.real ∧ i64 e.node ∧ i64 e.loc) ∧ okKey e.key ∧ okKey e.parent ∧ okId e.root ∧ i64 e.hop ∧ i64 e.code ∧ i64 e.value
theorem joinL_len : ∀ (l : List ByteArray), (∀ x ∈ l, x.size ≤ 83) → (joinL l).length ≤ 84 * l.length
  | [], _ => by simp [joinL, Lib.join_nil]
  | x :: l, h => by
    have hx := h x (by simp)
    have tl : ∀ m : List ByteArray, (∀ x ∈ m, x.size ≤ 83) → (Lib.joinTail [32] (m.map (·.data.toList))).length ≤ 84 * m.length := by
      intro m
      induction m with
      | nil => intro _; simp [Lib.joinTail]
      | cons y m ih =>
        intro hm
        have hy := hm y (by simp)
        have := ih (fun z hz => hm z (by simp [hz]))
        have hs : y.data.toList.length = y.size := by simp
        simp only [Lib.joinTail, List.map_cons, List.flatten_cons, List.length_append, List.length_cons, List.length_nil] at this ⊢
        omega
    have := tl l (fun z hz => h z (by simp [hz]))
    have hs : x.data.toList.length = x.size := by simp
    simp only [joinL, List.map_cons, Lib.join_cons, List.length_append, List.length_cons] at this ⊢
    omega
theorem jn_of (x : ByteArray) (l : List ByteArray) (h : ∀ y ∈ x :: l, y.size ≤ 83) (hl : (x :: l).length ≤ 20) : Jn (x :: l) ⟨(joinL (x :: l)).toArray⟩ := by
  have := joinL_len (x :: l) h
  unfold Jn
  exact ev_Join x l ⟨#[32]⟩ (by omega) (by show (joinL (x :: l)).length ≤ _; omega)
theorem ev_Line (e : Ev) (h : okEv e) : Fv Tryd.prog 39 [.agg e.g] (.str (lineE e)) := by
  obtain ⟨⟨o1, o2, o3⟩, o4, o5, o6, o7, o8, o9⟩ := h
  have s1 := itB_size o1; have s2 := itB_size o2; have s3 := itB_size o3; have s4 := keyB_size o4; have s5 := keyB_size o5; have s6 := idB_size o6; have s7 := itB_size o7; have s8 := itB_size o8; have s9 := itB_size o9
  have s0 := nameB_size e.kind
  have n1 : It _ _ := it_Itoa _ o1
  have n2 := ev_Name e.kind
  have n3 : It _ _ := it_Itoa _ o2
  have n4 : It _ _ := it_Itoa _ o3
  have n5 : Kt _ _ := ident_KeyText _ o4
  have m1 : Kt _ _ := ident_KeyText _ o5
  have m2 := ident_Text _ o6
  have m3 : It _ _ := it_Itoa _ o7
  have m4 : It _ _ := it_Itoa _ o8
  have m5 : It _ _ := it_Itoa _ o9
  have all : ∀ y ∈ partsE e, y.size ≤ 83 := fun y hy => by
    have z1 : (⟨#[97, 116]⟩ : ByteArray).size = 2 := rfl
    have z2 : (⟨#[98, 121]⟩ : ByteArray).size = 2 := rfl
    have z3 : (⟨#[117, 110, 100, 101, 114]⟩ : ByteArray).size = 5 := rfl
    have z4 : (⟨#[104, 111, 112]⟩ : ByteArray).size = 3 := rfl
    have z5 : (⟨#[99, 111, 100, 101]⟩ : ByteArray).size = 4 := rfl
    have z6 : (⟨#[118, 97, 108, 117, 101]⟩ : ByteArray).size = 5 := rfl
    unfold partsE tailE at hy
    (repeat' split at hy) <;> simp only [List.mem_append, List.mem_cons, List.not_mem_nil, or_false] at hy <;> (rcases hy with (rfl | rfl | rfl | rfl | rfl) | hy) <;> (try omega) <;> (try (rcases hy with rfl | hy)) <;> (try omega) <;>
      (try (rcases hy with rfl | rfl | rfl | rfl | rfl | rfl)) <;> (try omega) <;> (try (rcases hy with rfl | rfl | rfl | rfl)) <;> (try omega) <;> (try (rcases hy with rfl | rfl)) <;> (try omega)
  have hlen : (partsE e).length ≤ 20 := by unfold partsE tailE; (repeat' split) <;> simp
  have hJ : Jn (partsE e) (lineE e) := jn_of _ _ all hlen
  obtain ⟨kind, real, node, loc, key, parent, root, hop, code, value⟩ := e
  unfold partsE tailE at hJ
  simp only at *
  by_cases h9 : kind = 9
  · subst h9; exact line_9 _ _ _ _ _ _ _ _ _ _ _ _ _ _ n1 n2 n3 n4 hJ
  rw [if_neg h9] at hJ
  by_cases h2 : kind = 2
  · subst h2; exact line_2 _ _ _ _ _ _ _ _ _ _ _ _ _ _ _ _ _ _ n1 n2 n3 n4 n5 m1 m2 m3 hJ
  by_cases h3 : kind = 3
  · subst h3; exact line_3 _ _ _ _ _ _ _ _ _ _ _ _ _ _ _ _ _ _ n1 n2 n3 n4 n5 m1 m2 m3 hJ
  rw [if_neg (by omega)] at hJ
  by_cases h5 : kind = 5
  · subst h5; exact line_5 _ _ _ _ _ _ _ _ _ _ _ _ _ _ _ _ _ n1 n2 n3 n4 n5 m4 m5 hJ
  by_cases h6 : kind = 6
  · subst h6; exact line_6 _ _ _ _ _ _ _ _ _ _ _ _ _ _ _ _ _ n1 n2 n3 n4 n5 m4 m5 hJ
  by_cases h7 : kind = 7
  · subst h7; exact line_7 _ _ _ _ _ _ _ _ _ _ _ _ _ _ _ _ _ n1 n2 n3 n4 n5 m4 m5 hJ
  rw [if_neg (by omega)] at hJ
  by_cases h1 : kind = 1
  · subst h1; exact line_1 _ _ _ _ _ _ _ _ _ _ _ _ _ _ _ _ n1 n2 n3 n4 n5 m5 hJ
  by_cases h10 : kind = 10
  · subst h10; exact line_10 _ _ _ _ _ _ _ _ _ _ _ _ _ _ _ _ n1 n2 n3 n4 n5 m5 hJ
  rw [if_neg (by omega)] at hJ
  exact line_o _ _ _ _ _ _ _ _ _ _ _ _ _ _ _ _ n1 n2 n3 n4 n5 hJ (by simpa using h9) (by simpa using h2) (by simpa using h3) (by simpa using h5) (by simpa using h7) (by simpa using h6) (by simpa using h1) (by simpa using h10)
theorem lineE_size {e : Ev} (h : okEv e) : (lineE e).size ≤ 1100 := by
  obtain ⟨⟨o1, o2, o3⟩, o4, o5, o6, o7, o8, o9⟩ := h
  have s1 := itB_size o1; have s2 := itB_size o2; have s3 := itB_size o3; have s4 := keyB_size o4; have s5 := keyB_size o5; have s6 := idB_size o6; have s7 := itB_size o7; have s8 := itB_size o8; have s9 := itB_size o9
  have s0 := nameB_size e.kind
  have all : ∀ y ∈ partsE e, y.size ≤ 83 := fun y hy => by
    have z1 : (⟨#[97, 116]⟩ : ByteArray).size = 2 := rfl
    have z2 : (⟨#[98, 121]⟩ : ByteArray).size = 2 := rfl
    have z3 : (⟨#[117, 110, 100, 101, 114]⟩ : ByteArray).size = 5 := rfl
    have z4 : (⟨#[104, 111, 112]⟩ : ByteArray).size = 3 := rfl
    have z5 : (⟨#[99, 111, 100, 101]⟩ : ByteArray).size = 4 := rfl
    have z6 : (⟨#[118, 97, 108, 117, 101]⟩ : ByteArray).size = 5 := rfl
    unfold partsE tailE at hy
    (repeat' split at hy) <;> simp only [List.mem_append, List.mem_cons, List.not_mem_nil, or_false] at hy <;> (rcases hy with (rfl | rfl | rfl | rfl | rfl) | hy) <;> (try omega) <;> (try (rcases hy with rfl | hy)) <;> (try omega) <;>
      (try (rcases hy with rfl | rfl | rfl | rfl | rfl | rfl)) <;> (try omega) <;> (try (rcases hy with rfl | rfl | rfl | rfl)) <;> (try omega) <;> (try (rcases hy with rfl | rfl)) <;> (try omega)
  have h1 := joinL_len (partsE e) all
  have h2 : (partsE e).length ≤ 12 := by unfold partsE tailE; (repeat' split) <;> simp
  show (joinL (partsE e)).toArray.size ≤ 1100
  rw [List.size_toArray]; omega
theorem itoa_small (n : Nat) (h : n < 10) : Lib.itoa (n : Int) = [UInt8.ofNat (48 + n)] := by
  unfold Lib.itoa
  rw [if_neg (by omega)]
  show Lib.decDigits n = _
  rw [Lib.decDigits, dif_pos h]
theorem ok_exEv : okEv exEv := by unfold okEv okKey okId i64 exEv; decide
theorem line_exEv : lineE exEv = lineB := by
  have e1 : itB exEv.real = ⟨#[55]⟩ := by show strL' (Lib.itoa ((7 : Nat) : Int)) = _; rw [itoa_small 7 (by omega)]; rfl
  have e2 : itB exEv.node = ⟨#[50]⟩ := by show strL' (Lib.itoa ((2 : Nat) : Int)) = _; rw [itoa_small 2 (by omega)]; rfl
  have e3 : itB exEv.loc = ⟨#[57]⟩ := by show strL' (Lib.itoa ((9 : Nat) : Int)) = _; rw [itoa_small 9 (by omega)]; rfl
  unfold lineE partsE
  rw [e1, e2, e3]
  rfl
theorem law25_awake : Fv Tryd.prog 10 [] (.bool true) :=
  awake_of lineB exEv.g (strEq_self _) (by rw [← line_exEv]; exact ev_Line exEv ok_exEv) (ev_Of [exEv] 9 (by decide))
end Go.Proofs.YtcihkmnolagdlaaDoor.Cn
namespace Go.Proofs.YtcihkmnolagdlaaDoor.Sp
open Go Go.Proofs.YtcihkmnolagdlaaDoor.Av
set_option linter.unusedVariables false

/-- An owner's cells, with another last one. -/
def Owner.gw (o : Owner) (x : G) : List G := [.int .i64 o.key.id.node, .int .i64 o.key.id.inc, .int .i64 o.key.id.seq, .int .i64 o.key.att, .int .i64 o.root.node, .int .i64 o.root.inc, .int .i64 o.root.seq,
  .int .i64 o.parent.id.node, .int .i64 o.parent.id.inc, .int .i64 o.parent.id.seq, .int .i64 o.parent.att, .int .i64 o.from, .int .i64 o.hop, .int .i64 o.deadline, .int .i64 o.until, .int .i64 o.program, .int .i64 o.pc, .int .i64 o.done, x]
def zOwner : Owner := ⟨⟨⟨0, 0, 0⟩, 0⟩, ⟨0, 0, 0⟩, ⟨⟨0, 0, 0⟩, 0⟩, 0, 0, 0, 0, 0, 0, 0, []⟩
/-- An own row of n elements, as a loop's head tells it. -/
def OwnI {α : Type} (R : α → List G) (l : List α) (k : Nat) (b : Nat × List (List G)) : Prop := b.1 = k ∧ b.2 = (l.take k).map R
theorem take_at {α : Type} {l : List α} {k : Nat} (hk : k < l.length) : l.take (k + 1) = l.take k ++ [l[k]] := List.take_succ_eq_append_getElem hk
/-! Equality by parts. -/
theorem id_eqB (c d : Id) : (c.node == d.node && (c.inc == d.inc && (c.seq == d.seq && true))) = decide (c = d) := by
  obtain ⟨a, b, e⟩ := c; obtain ⟨a', b', e'⟩ := d
  rw [Bool.eq_iff_iff]; simp
theorem key_eqB (c d : Key) : ((c.id.node == d.id.node && (c.id.inc == d.id.inc && (c.id.seq == d.id.seq && true))) && (c.att == d.att && true)) = decide (c = d) := by
  obtain ⟨⟨a, b, e⟩, f⟩ := c; obtain ⟨⟨a', b', e'⟩, f'⟩ := d
  rw [Bool.eq_iff_iff]; simp [and_assoc]
theorem key_eqC (c d : Key) : (decide (c.id = d.id) && (c.att == d.att && true)) = decide (c = d) := by rw [← id_eqB]; exact key_eqB c d
theorem call_eqB (c d : Call) : ((c.id.node == d.id.node && (c.id.inc == d.id.inc && (c.id.seq == d.id.seq && true))) && (c.to == d.to && (c.program == d.program && (c.att == d.att && (c.state == d.state && (c.sent == d.sent && (c.ready == d.ready && (c.committed == d.committed && (c.code == d.code && (c.value == d.value && (c.tries == d.tries && true))))))))))) = decide (c = d) := by
  obtain ⟨⟨a, b, e⟩, _, _, _, _, _, _, _, _, _, _⟩ := c; obtain ⟨⟨a', b', e'⟩, _, _, _, _, _, _, _, _, _, _⟩ := d
  rw [Bool.eq_iff_iff]; simp [and_assoc]
/-- The parts beside the calls. -/
def sameH (a b : Owner) : Prop := a.key = b.key ∧ a.root = b.root ∧ a.parent = b.parent ∧ a.from = b.from ∧ a.hop = b.hop ∧ a.deadline = b.deadline ∧ a.until = b.until ∧ a.program = b.program ∧ a.pc = b.pc ∧ a.done = b.done
theorem owner_ext (a b : Owner) : a = b ↔ sameH a b ∧ a.calls = b.calls := by
  obtain ⟨_, _, _, _, _, _, _, _, _, _, _⟩ := a; obtain ⟨_, _, _, _, _, _, _, _, _, _, _⟩ := b
  simp [sameH, and_assoc]
theorem take_eq_all {α : Type} {l m : List α} (h : l.length = m.length) (e : l.take l.length = m.take l.length) : l = m := by
  rw [List.take_length] at e; rw [h, List.take_length] at e; exact e
/-- What is put: in the place of the one of its name, or last. -/
def withC (l : List Call) (c : Call) : List Call := match l.findIdx? (fun x => x.id == c.id) with | some i => l.set i c | none => l ++ [c]
def withO (o : Owner) (c : Call) : Owner := { o with calls := withC o.calls c }
end Go.Proofs.YtcihkmnolagdlaaDoor.Sp
namespace Go.Proofs.YtcihkmnolagdlaaDoor.Cn
open Go Go.Proofs Go.Proofs.YtcihkmnolagdlaaDoor.Av Go.Proofs.YtcihkmnolagdlaaDoor.Sp
set_option linter.unusedVariables false
set_option linter.unusedSimpArgs false
set_option linter.unusedSectionVars false
set_option maxRecDepth 100000
attribute [local irreducible] Fv Fp

/-- An event of an attempt. -/
def keyP (k : Sp.Key) (e : Ev) : Bool := !(e.kind == 9 || !(decide (e.key = k)))
theorem ev_Key1 (e : Ev) (k : Sp.Key) : Fv Tryd.prog 43 [.agg e.g, .elt k.g 0] (.bool (!(keyP k e))) := by
  have e0 := key_eqB e.key k
  unfold keyP
  rw [← e0]
  by_cases h : e.kind = 9
  · have b1 : (e.kind == 9) = true := by simpa using h
    rw [b1]
    refine Fv.of_awp Tryd.func43 rfl (by kernel_rfl) rfl (Nat.le_of_ble_eq_true rfl) ?_
    repeat' (conv => whnf
             first
             | (refine And.intro (by kernel_rfl) ?_)
             | (refine And.intro ⟨by kernel_rfl, by kernel_rfl⟩ ?_)
             | (refine cond_1 b1 ?_)
             | (refine cond_f ?_ ?_)
             | (refine ⟨_, ⟨by decide, rfl⟩, ?_⟩)
             | (refine cond_i (fun h => ?_) (fun h => ?_)))
    all_goals (conv => whnf)
    all_goals first | rfl | exact congrArg G.bool b1
  · have b1 : (e.kind == 9) = false := by simpa using h
    rw [b1]
    refine Fv.of_awp Tryd.func43 rfl (by kernel_rfl) rfl (Nat.le_of_ble_eq_true rfl) ?_
    repeat' (conv => whnf
             first
             | (refine And.intro (by kernel_rfl) ?_)
             | (refine And.intro ⟨by kernel_rfl, by kernel_rfl⟩ ?_)
             | (refine cond_0 b1 ?_)
             | (refine cond_f ?_ ?_)
             | (refine ⟨_, ⟨by decide, rfl⟩, ?_⟩)
             | (refine cond_i (fun h => ?_) (fun h => ?_)))
    all_goals (conv => whnf)
    all_goals simp only [Bool.false_or, Bool.not_not]
set_option maxHeartbeats 4000000 in
theorem ev_IndexK (l : List Ev) (k : Sp.Key) (hs : l.length ≤ 1000) : Fv Tryd.prog 58 [.sl (l.map Ev.g), .fn 43 [.elt k.g 0]]
    (.int .i64 (idxB (fun e => !(keyP k e)) l)) := by
  refine Fv.of_awp Tryd.func58 rfl (by kernel_rfl) rfl (Nat.le_of_ble_eq_true rfl) ?_
  repeat' (conv => whnf
           first
           | (refine And.intro (by kernel_rfl) ?_)
           | (refine And.intro ⟨by kernel_rfl, by kernel_rfl⟩ ?_)
           | (refine cond_f ?_ ?_)
           | (refine ⟨_, ⟨by decide, rfl⟩, ?_⟩)
           | (refine cond_i (fun h => ?_) (fun h => ?_)))
  all_goals (conv => whnf)
  refine Has.each [0, 1, 7, 8] [] l.length (fun j (_ : Unit) => idxB (fun e => !(keyP k e)) (l.take j) = -1) (fun _ i =>
    St.of 19 [(0, .sl (l.map Ev.g)), (1, .fn 43 [.elt k.g 0]), (7, .int .i64 ((l.map Ev.g).length : Nat)), (8, .int .i64 i)] [] []) ⟨(), _, rfl, rfl, rfl⟩ (fun j _ hj hI => ?_) (fun _ hI => ?_)
  · have f1 := row_at (R := Ev.g) hj
    have hF := ev_Key1 l[j] k
    cases hb : (!(keyP k l[j])) with
    | true =>
      rw [hb] at hF
      refine awp_go ?_
      repeat' (conv => whnf
               first
               | (refine And.intro (by kernel_rfl) ?_)
               | (refine And.intro ⟨by kernel_rfl, by kernel_rfl⟩ ?_)
               | (refine cond_1 (lt_at hj) ?_)
               | (refine ⟨_, f1, ?_⟩)
               | (refine Or.inl ⟨_, hF, ?_⟩)
               | (refine ⟨_, hF, ?_⟩)
               | (refine cond_f ?_ ?_)
               | (refine ⟨_, ⟨by decide, rfl⟩, ?_⟩)
               | (refine cond_i (fun h => ?_) (fun h => ?_)))
      all_goals (conv => whnf)
      rw [idx_hit hj hI hb]
    | false =>
      rw [hb] at hF
      refine awp_go ?_
      repeat' (conv => whnf
               first
               | (refine And.intro (by kernel_rfl) ?_)
               | (refine And.intro ⟨by kernel_rfl, by kernel_rfl⟩ ?_)
               | (refine cond_1 (lt_at hj) ?_)
               | (refine ⟨_, f1, ?_⟩)
               | (refine Or.inl ⟨_, hF, ?_⟩)
               | (refine ⟨_, hF, ?_⟩)
               | (refine cond_f ?_ ?_)
               | (refine ⟨_, ⟨by decide, rfl⟩, ?_⟩)
               | (refine cond_i (fun h => ?_) (fun h => ?_)))
      all_goals (conv => whnf)
      exact ⟨(), _, rfl, idx_step hj hI hb, up1 hj (by omega)⟩
  · rw [List.take_length] at hI
    rw [hI]
    refine awp_go ?_
    repeat' (conv => whnf
             first
             | (refine And.intro (by kernel_rfl) ?_)
             | (refine And.intro ⟨by kernel_rfl, by kernel_rfl⟩ ?_)
             | (refine cond_0 lt_end ?_)
             | (refine cond_f ?_ ?_)
             | (refine ⟨_, ⟨by decide, rfl⟩, ?_⟩)
             | (refine cond_i (fun h => ?_) (fun h => ?_)))
    all_goals (conv => whnf)
    all_goals rfl
set_option maxHeartbeats 8000000 in
theorem ev_DeleteK (l : List Ev) (k : Sp.Key) (hs : l.length ≤ 1000) : Fp Tryd.prog 40 [.own 0 0 l.length, .fn 43 [.elt k.g 0]] [] [l.map Ev.g]
    (.own 0 0 (l.filter fun e => keyP k e).length, [], [some ((l.filter fun e => keyP k e).map Ev.g ++ List.replicate (l.length - (l.filter fun e => keyP k e).length) zEv)]) := by
  have hx := ev_IndexK l k hs
  refine Fp.of_awp Tryd.func40 rfl (by kernel_rfl) (Nat.le_of_ble_eq_true rfl) ?_
  rcases idx_cases (fun e : Ev => keyP k e) l with ⟨h1, h2⟩ | ⟨i, hi, h1, h2⟩
  · have h1' : idxB (fun e : Ev => !(keyP k e)) l = -1 := h1
    rw [h1'] at hx
    rw [h2, Nat.sub_self]
    simp only [List.replicate_zero, List.append_nil]
    repeat' (conv => whnf
             first
             | (refine And.intro (by kernel_rfl) ?_)
             | (refine And.intro ⟨by kernel_rfl, by kernel_rfl⟩ ?_)
             | (refine Or.inl ⟨_, hx, ?_⟩)
             | (refine ⟨_, hx, ?_⟩)
             | (refine ⟨own_le1, ?_⟩)
             | (rw [own_all1])
             | (refine Or.inl ?_)
             | (refine cond_f ?_ ?_)
             | (refine ⟨_, ⟨by decide, rfl⟩, ?_⟩)
             | (refine cond_i (fun h => ?_) (fun h => ?_)))
    all_goals (conv => whnf)
    all_goals rfl
  · have h1' : idxB (fun e : Ev => !(keyP k e)) l = (i : Int) := h1
    rw [h1'] at hx
    have b1 : ((i : Int) == -1) = false := by simp
    repeat' (conv => whnf
             first
             | (refine And.intro (by kernel_rfl) ?_)
             | (refine And.intro ⟨by kernel_rfl, by kernel_rfl⟩ ?_)
             | (refine Or.inl ⟨_, hx, ?_⟩)
             | (refine ⟨_, hx, ?_⟩)
             | (refine ⟨own_le1, ?_⟩)
             | (rw [own_all1])
             | (refine cond_0 b1 ?_)
             | (refine Or.inl ?_)
             | (refine cond_f ?_ ?_)
             | (refine ⟨_, ⟨by decide, rfl⟩, ?_⟩)
             | (refine cond_i (fun h => ?_) (fun h => ?_)))
    all_goals (conv => whnf)
    refine Has.each [0, 1, 5, 6] [7] (l.length - (i + 1)) (fun j b => DelJ (fun e : Ev => keyP k e) l (i + 1) j b) (fun b _ =>
      St.ofP 42 0 1 [(0, .own 50 0 l.length), (1, .fn 43 [.elt k.g 0]), (5, .int .i64 b.i), (6, .int .i64 b.j)] [] [(50, b.R.map Ev.g)])
      ⟨⟨l, (i : Int), IntKind.i64.wrap ((i : Int) + 1)⟩, _, rfl, ⟨i, rfl, wrap_i64 (by omega), ⟨rfl, ⟨by omega, by omega⟩, h2.symm, rfl⟩⟩, rfl⟩ (fun j b hj hI => ?_) (fun b hI => ?_)
    · obtain ⟨R, bi, bj⟩ := b
      obtain ⟨c, rfl, rfl, hD⟩ := hI
      simp only at *
      have hJ : i + 1 + j < l.length := by omega
      have hR := hD.at hJ
      have hs2 := hD.step hJ
      have hRl := hD.len
      have hcJ := hD.le
      have f1 : 0 ≤ ((i + 1 + j : Nat) : Int) ∧ ((i + 1 + j : Nat) : Int) < ((l.length : Nat) : Int) ∧ (R.map Ev.g)[(0 : Nat) + (((i + 1 + j : Nat) : Int)).toNat]? = some (Ev.g l[i + 1 + j]) := ⟨by omega, by omega, by rw [Nat.zero_add, Int.toNat_natCast, List.getElem?_map, hR]; rfl⟩
      have f2 := f1.2.2
      have hF := ev_Key1 l[i + 1 + j] k
      have c1 : decide (((i + 1 + j : Nat) : Int) < ((l.length : Nat) : Int)) = true := decide_eq_true (by omega)
      have wj : IntKind.i64.wrap (((i + 1 + j : Nat) : Int) + 1) = ((i + 1 + (j + 1) : Nat) : Int) := by rw [wrap_i64 (by omega)]; omega
      cases hb : (keyP k l[i + 1 + j]) with
      | false =>
        have hb' : (!(keyP k l[i + 1 + j])) = true := by rw [hb]; rfl
        rw [hb'] at hF
        refine awp_go ?_
        repeat' (conv => whnf
                 first
                 | (refine And.intro (by kernel_rfl) ?_)
                 | (refine And.intro ⟨by kernel_rfl, by kernel_rfl⟩ ?_)
                 | (refine cond_1 c1 ?_)
                 | (refine ⟨_, f1, ?_⟩)
                 | (refine ⟨_, f2, ?_⟩)
                 | (refine Or.inl ⟨_, hF, ?_⟩)
                 | (refine ⟨_, hF, ?_⟩)
                 | (refine cond_f ?_ ?_)
                 | (refine ⟨_, ⟨by decide, rfl⟩, ?_⟩)
                 | (refine cond_i (fun h => ?_) (fun h => ?_)))
        all_goals (conv => whnf)
        exact ⟨⟨R, (c : Int), _⟩, _, rfl, ⟨c, rfl, wj, hs2.1 hb⟩, rfl⟩
      | true =>
        have hb' : (!(keyP k l[i + 1 + j])) = false := by rw [hb]; rfl
        rw [hb'] at hF
        have hcl : c < R.length := by omega
        have g1 : 0 ≤ ((c : Nat) : Int) ∧ ((c : Nat) : Int) < ((l.length : Nat) : Int) ∧ (R.map Ev.g)[(0 : Nat) + (((c : Nat) : Int)).toNat]? = some (Ev.g R[c]) := ⟨by omega, by omega, by rw [Nat.zero_add, Int.toNat_natCast, List.getElem?_map, List.getElem?_eq_getElem hcl]; rfl⟩
        have g2 : (R.map Ev.g)[(0 : Nat) + (((c : Nat) : Int)).toNat]? = some (Ev.g R[c]) ∧ 0 + Tryd.prog.cellsOf 30 ≤ (Ev.g R[c]).length := ⟨g1.2.2, Nat.le_of_ble_eq_true (by kernel_rfl)⟩
        have wc : IntKind.i64.wrap (((c : Nat) : Int) + 1) = ((c + 1 : Nat) : Int) := by rw [wrap_i64 (by omega)]; omega
        refine awp_go ?_
        repeat' (conv => whnf
                 first
                 | (refine And.intro (by kernel_rfl) ?_)
                 | (refine And.intro ⟨by kernel_rfl, by kernel_rfl⟩ ?_)
                 | (refine cond_1 c1 ?_)
                 | (refine ⟨_, f1, ?_⟩)
                 | (refine ⟨_, f2, ?_⟩)
                 | (refine Or.inl ⟨_, hF, ?_⟩)
                 | (refine ⟨_, hF, ?_⟩)
                 | (refine ⟨_, g1, ?_⟩)
                 | (refine ⟨_, g2, ?_⟩)
                 | (refine cond_f ?_ ?_)
                 | (refine ⟨_, ⟨by decide, rfl⟩, ?_⟩)
                 | (refine cond_i (fun h => ?_) (fun h => ?_)))
        all_goals (conv => whnf)
        refine ⟨⟨R.set c l[i + 1 + j], _, _⟩, _, ?_, ⟨c + 1, wc, wj, hs2.2 hb⟩, rfl⟩
        rw [List.map_set]
        have e0 : (0 : Nat) + (((c : Nat) : Int)).toNat = c := by rw [Nat.zero_add, Int.toNat_natCast]
        rw [show (R.map Ev.g).set c (Ev.g l[i + 1 + j]) = (R.map Ev.g).set ((0 : Nat) + (((c : Nat) : Int)).toNat) (Ev.g l[i + 1 + j]) from congrArg (fun x => (R.map Ev.g).set x (Ev.g l[i + 1 + j])) e0.symm]
        rfl
    · obtain ⟨R, bi, bj⟩ := b
      obtain ⟨c, rfl, rfl, hD⟩ := hI
      simp only at *
      have hRl := hD.len
      have hcJ := hD.le
      have hJ : i + 1 + (l.length - (i + 1)) = l.length := by omega
      rw [hJ] at hD ⊢
      obtain ⟨r1, r2⟩ := del_row hD rfl
      have c1 : decide (((l.length : Nat) : Int) < ((l.length : Nat) : Int)) = false := decide_eq_false (by omega)
      have g1 : (0 : Int) ≤ ((c : Nat) : Int) ∧ ((c : Nat) : Int) ≤ ((l.length : Nat) : Int) ∧ ((l.length : Nat) : Int) ≤ ((l.length : Nat) : Int) ∧ ∀ r ∈ R.map Ev.g, r.length = Tryd.prog.cellsOf 30 := ⟨by omega, by omega, by omega, ev_len⟩
      have g2 : 0 + (((c : Nat) : Int)).toNat + (l.length - (((c : Nat) : Int)).toNat) ≤ (R.map Ev.g).length ∧ ∀ r ∈ R.map Ev.g, r.length = Tryd.prog.cellsOf 30 := ⟨by rw [List.length_map]; omega, ev_len⟩
      have g3 : (0 : Int) ≤ 0 ∧ (0 : Int) ≤ ((c : Nat) : Int) ∧ ((c : Nat) : Int) ≤ ((l.length : Nat) : Int) ∧ ∀ r ∈ (R.map Ev.g).take (0 + (((c : Nat) : Int)).toNat) ++ List.replicate (l.length - (((c : Nat) : Int)).toNat) zEv ++ (R.map Ev.g).drop (0 + (((c : Nat) : Int)).toNat + (l.length - (((c : Nat) : Int)).toNat)), r.length = Tryd.prog.cellsOf 30 := ⟨by omega, by omega, by omega, fun r hr => by
        rw [List.mem_append, List.mem_append] at hr
        rcases hr with (hr | hr) | hr
        · exact ev_len r (List.mem_of_mem_take hr)
        · rw [List.eq_of_mem_replicate hr, evcells]; rfl
        · exact ev_len r (List.mem_of_mem_drop hr)⟩
      refine awp_go ?_
      rw [← r1, ← r2]
      repeat' (conv => whnf
               first
               | (refine And.intro (by kernel_rfl) ?_)
               | (refine And.intro ⟨by kernel_rfl, by kernel_rfl⟩ ?_)
               | (refine cond_0 c1 ?_)
               | (refine ⟨g1, ?_⟩)
               | (refine ⟨g2, ?_⟩)
               | (refine ⟨g3, ?_⟩)
               | (refine cond_f ?_ ?_)
               | (refine ⟨_, ⟨by decide, rfl⟩, ?_⟩)
               | (refine cond_i (fun h => ?_) (fun h => ?_)))
      all_goals (conv => whnf)
      all_goals rfl
theorem key_le {l : List Ev} {k : Sp.Key} : 0 + (l.filter fun e => keyP k e).length ≤ ((l.filter fun e => keyP k e).map Ev.g ++ List.replicate (l.length - (l.filter fun e => keyP k e).length) zEv).length := by simp
theorem key_all {l : List Ev} {k : Sp.Key} : (((l.filter fun e => keyP k e).map Ev.g ++ List.replicate (l.length - (l.filter fun e => keyP k e).length) zEv).drop 0).take (l.filter fun e => keyP k e).length = (l.filter fun e => keyP k e).map Ev.g := by
  rw [List.drop_zero]; exact List.take_left' (by simp)
theorem ev_Key (l : List Ev) (k : Sp.Key) (hs : l.length ≤ 1000) : Fv Tryd.prog 13 [.sl (l.map Ev.g), .agg k.g] (.sl ((l.filter fun e => keyP k e).map Ev.g)) := by
  have n1 := ev_Clone l hs
  have n2 : Fp Tryd.prog 40 [.own 0 0 l.length, .fn 43 [.ptr 0 0]] [k.g] [l.map Ev.g]
    (.own 0 0 (l.filter fun e => keyP k e).length, [some k.g], [some ((l.filter fun e => keyP k e).map Ev.g ++ List.replicate (l.length - (l.filter fun e => keyP k e).length) zEv)]) := by
    have fl : ∀ (m : List Ev), ∀ r ∈ m.map Ev.g, ∀ x ∈ r, x.flat0 = true := fun m r hr x hx => by
      obtain ⟨e, _, rfl⟩ := List.mem_map.1 hr
      simp only [Ev.g, List.mem_cons, List.not_mem_nil, or_false] at hx
      rcases hx with rfl | rfl | rfl | rfl | rfl | rfl | rfl | rfl | rfl | rfl | rfl | rfl | rfl | rfl | rfl | rfl | rfl | rfl <;> rfl
    refine Fp.lendBox (fun x hx => ?_) (fun xs hx r hr x hx' => ?_) (fun xs hx r hr x hx' => ?_) (ev_DeleteK l k hs)
    · simp only [Sp.Key.g, List.mem_cons, List.not_mem_nil, or_false] at hx; rcases hx with rfl | rfl | rfl | rfl <;> rfl
    · simp only [List.mem_cons, List.not_mem_nil, or_false] at hx; subst hx; exact fl l r hr x hx'
    · simp only [List.mem_cons, List.not_mem_nil, or_false, Option.some.injEq] at hx; subst hx
      rcases List.mem_append.1 hr with hr | hr
      · exact fl _ r hr x hx'
      · rw [List.eq_of_mem_replicate hr] at hx'
        rw [List.eq_of_mem_replicate hx']; rfl
  refine Fv.of_awp Tryd.func13 rfl (by kernel_rfl) rfl (Nat.le_of_ble_eq_true rfl) ?_
  repeat' (conv => whnf
           first
           | (refine And.intro (by kernel_rfl) ?_)
           | (refine And.intro ⟨by kernel_rfl, by kernel_rfl⟩ ?_)
           | (refine Or.inr ⟨_, n1, ?_⟩)
           | (refine Or.inr ⟨_, n2, ?_⟩)
           | (refine ⟨key_le, ?_⟩)
           | (rw [key_all])
           | (refine cond_f ?_ ?_)
           | (refine ⟨_, ⟨by decide, rfl⟩, ?_⟩)
           | (refine cond_i (fun h => ?_) (fun h => ?_)))
  all_goals (conv => whnf)
  all_goals rfl
end Go.Proofs.YtcihkmnolagdlaaDoor.Cn
namespace Go.Proofs.YtcihkmnolagdlaaDoor.Cn
open Go Go.Proofs Go.Proofs.YtcihkmnolagdlaaDoor.Av Go.Proofs.YtcihkmnolagdlaaDoor.Sp
set_option linter.unusedVariables false
set_option linter.unusedSimpArgs false
set_option linter.unusedSectionVars false
set_option maxRecDepth 100000
attribute [local irreducible] Fv Fp

theorem noEsc : NoEsc Tryd.prog 73 := ⟨_, Tryd.func73, by kernel_rfl, by kernel_rfl, by kernel_rfl, by kernel_rfl⟩
theorem bld_check0 : Fp Tryd.prog 59 [.ptrt 0 74 2] [[.lit (.pointer none), .nilt]] [] (.tup [], [some [.ptrt 0 74 2, .nilt]], []) := by
  refine Fp.of_awp Tryd.func59 rfl (by kernel_rfl) (Nat.le_of_ble_eq_true rfl) ?_
  repeat' (conv => whnf
           first
           | (refine And.intro (by kernel_rfl) ?_)
           | (refine And.intro ⟨by kernel_rfl, by kernel_rfl⟩ ?_)
           | (refine ⟨noEsc, ?_⟩)
           | (refine cond_f ?_ ?_)
           | (refine ⟨_, ⟨by decide, rfl⟩, ?_⟩)
           | (refine cond_i (fun h => ?_) (fun h => ?_)))
  all_goals (conv => whnf)
  all_goals rfl
theorem bld_check1 (g : G) (n : Nat) (xs : List (List G)) (hg : g = .ownt 0 n 5) : Fp Tryd.prog 59 [.ptrt 0 74 2] [[.ptrt 0 74 2, .ownt 0 n 5]] [xs] (.tup [], [some [.ptrt 0 74 2, .ownt 0 n 5]], [some xs]) := by
  refine Fp.of_awp Tryd.func59 rfl (by kernel_rfl) (Nat.le_of_ble_eq_true rfl) ?_
  repeat' (conv => whnf
           first
           | (refine And.intro (by kernel_rfl) ?_)
           | (refine And.intro ⟨by kernel_rfl, by kernel_rfl⟩ ?_)
           | (refine cond_f ?_ ?_)
           | (refine ⟨_, ⟨by decide, rfl⟩, ?_⟩)
           | (refine cond_i (fun h => ?_) (fun h => ?_)))
  all_goals (conv => whnf)
  all_goals rfl
theorem u8c : Tryd.prog.cellsOf 5 = 1 := by kernel_rfl
theorem u8b : Tryd.prog.bytesOf 5 = 1 := by kernel_rfl
theorem u8_rows (l : List UInt8) : okRows (Tryd.prog.cellsOf 5) (l.map fun b => [G.int .u8 (b.toNat : Int)]) = true := by
  rw [u8c]; unfold okRows
  rw [List.all_eq_true]
  intro r hr
  obtain ⟨x, _, rfl⟩ := List.mem_map.1 hr
  rfl
theorem u8_fit (l : List UInt8) (h : l.length ≤ 1000000000) : fitsB Tryd.prog 5 (l.map fun b => [G.int .u8 (b.toNat : Int)]).length := by
  unfold fitsB; rw [u8b, List.length_map]; omega
theorem u8_app (l m : List UInt8) (h : l.length + m.length ≤ 1000000000) : 0 + (l.map fun b => [G.int .u8 (b.toNat : Int)]).length ≤ (l.map fun b => [G.int .u8 (b.toNat : Int)]).length ∧
    (0 < (l.map fun b => [G.int .u8 (b.toNat : Int)]).length + (m.map fun b => [G.int .u8 (b.toNat : Int)]).length ∨ (l.map fun b => [G.int .u8 (b.toNat : Int)]) = []) ∧
    fitsB Tryd.prog 5 ((l.map fun b => [G.int .u8 (b.toNat : Int)]).length + (m.map fun b => [G.int .u8 (b.toNat : Int)]).length) ∧ ∀ r ∈ (l.map fun b => [G.int .u8 (b.toNat : Int)]), r.length = Tryd.prog.cellsOf 5 := by
  refine ⟨by omega, ?_, by unfold fitsB; rw [u8b, List.length_map, List.length_map]; omega, fun r hr => by obtain ⟨x, _, rfl⟩ := List.mem_map.1 hr; rw [u8c]; rfl⟩
  cases l with
  | nil => exact .inr rfl
  | cons x l => exact .inl (by simp; omega)
theorem u8_tk (l m : List UInt8) : ((l.map fun b => [G.int .u8 (b.toNat : Int)]).drop 0).take (l.map fun b => [G.int .u8 (b.toNat : Int)]).length ++ (m.map fun b => [G.int .u8 (b.toNat : Int)]) = (l ++ m).map fun b => [G.int .u8 (b.toNat : Int)] := by rw [List.drop_zero, List.take_length, List.map_append]
theorem u8_ln (l m : List UInt8) : (l.map fun b => [G.int .u8 (b.toNat : Int)]).length + (m.map fun b => [G.int .u8 (b.toNat : Int)]).length = ((l ++ m).map fun b => [G.int .u8 (b.toNat : Int)]).length := by simp
/-- A builder's two cells: fresh, or with bytes. -/
def bldC (l : List UInt8) : List G := [.ptrt 0 74 2, .ownt 0 (l.map fun b => [G.int .u8 (b.toNat : Int)]).length 5]
def bldR (l : List UInt8) : List (List G) := l.map fun b => [G.int .u8 (b.toNat : Int)]
def bldZ : List G := [.lit (.pointer none), .nilt]
theorem bld_WriteString0 (s : ByteArray) (h : s.size ≤ 1000000000) : Fp Tryd.prog 44 [.ptrt 0 74 2, .str s] [bldZ] [] (.tup [.int .i64 (s.size : Int), .lit .nilIface], [some (bldC s.data.toList)], [some (bldR s.data.toList)]) := by
  have r1 := u8_rows s.data.toList
  have f1 := u8_fit s.data.toList (by rw [size_list]; exact h)
  refine Fp.of_awp Tryd.func44 rfl (by kernel_rfl) (Nat.le_of_ble_eq_true rfl) ?_
  repeat' (conv => whnf
           first
           | (refine And.intro (by kernel_rfl) ?_)
           | (refine And.intro ⟨by kernel_rfl, by kernel_rfl⟩ ?_)
           | (refine Or.inr ⟨_, bld_check0, ?_⟩)
           | (refine cond_1 r1 ?_)
           | (refine ⟨f1, ?_⟩)
           | (refine cond_f ?_ ?_)
           | (refine ⟨_, ⟨by decide, rfl⟩, ?_⟩)
           | (refine cond_i (fun h => ?_) (fun h => ?_)))
  all_goals (conv => whnf)
  all_goals rfl
theorem bld_WriteString1 (l : List UInt8) (s : ByteArray) (h : l.length + s.size ≤ 1000000000) : Fp Tryd.prog 44 [.ptrt 0 74 2, .str s] [bldC l] [bldR l] (.tup [.int .i64 (s.size : Int), .lit .nilIface], [some (bldC (l ++ s.data.toList))], [some (bldR (l ++ s.data.toList))]) := by
  have r1 := u8_rows s.data.toList
  have f1 := u8_app l s.data.toList (by rw [size_list]; exact h)
  refine Fp.of_awp Tryd.func44 rfl (by kernel_rfl) (Nat.le_of_ble_eq_true rfl) ?_
  repeat' (conv => whnf
           first
           | (refine And.intro (by kernel_rfl) ?_)
           | (refine And.intro ⟨by kernel_rfl, by kernel_rfl⟩ ?_)
           | (refine Or.inr ⟨_, bld_check1 _ _ (l.map fun b => [G.int .u8 (b.toNat : Int)]) rfl, ?_⟩)
           | (refine cond_1 r1 ?_)
           | (refine ⟨f1, ?_⟩)
           | (rw [u8_tk])
           | (rw [u8_ln])
           | (refine cond_f ?_ ?_)
           | (refine ⟨_, ⟨by decide, rfl⟩, ?_⟩)
           | (refine cond_i (fun h => ?_) (fun h => ?_)))
  all_goals (conv => whnf)
  all_goals rfl
theorem bld_String0 : Fp Tryd.prog 45 [.ptrt 0 74 2] [bldZ] [] (.str (strL []), [some bldZ], []) := by
  refine Fp.of_awp Tryd.func45 rfl (by kernel_rfl) (Nat.le_of_ble_eq_true rfl) ?_
  repeat' (conv => whnf
           first
           | (refine And.intro (by kernel_rfl) ?_)
           | (refine And.intro ⟨by kernel_rfl, by kernel_rfl⟩ ?_)
           | (refine ⟨rfl, ?_⟩)
           | (refine cond_f ?_ ?_)
           | (refine ⟨_, ⟨by decide, rfl⟩, ?_⟩)
           | (refine cond_i (fun h => ?_) (fun h => ?_)))
  all_goals (conv => whnf)
  all_goals rfl
theorem bld_String1 (l : List UInt8) (h : l.length ≤ 1000000000) : Fp Tryd.prog 45 [.ptrt 0 74 2] [bldC l] [bldR l] (.str (strL l), [some [.ptrt 0 74 2, .dead]], [none]) := by
  have f1 : (((l.map fun b => [G.int .u8 (b.toNat : Int)]).length : Nat) : Int) = (l.length : Int) ∧ l.length ≤ 9223372036854775807 ∧ (l.map fun b => [G.int .u8 (b.toNat : Int)]).take l.length = l.map fun b => [G.int .u8 (b.toNat : Int)] := ⟨by simp, by omega, List.take_of_length_le (by simp)⟩
  refine Fp.of_awp Tryd.func45 rfl (by kernel_rfl) (Nat.le_of_ble_eq_true rfl) ?_
  repeat' (conv => whnf
           first
           | (refine And.intro (by kernel_rfl) ?_)
           | (refine And.intro ⟨by kernel_rfl, by kernel_rfl⟩ ?_)
           | (refine ⟨l, f1, ?_⟩)
           | (refine cond_f ?_ ?_)
           | (refine ⟨_, ⟨by decide, rfl⟩, ?_⟩)
           | (refine cond_i (fun h => ?_) (fun h => ?_)))
  all_goals (conv => whnf)
  all_goals rfl
end Go.Proofs.YtcihkmnolagdlaaDoor.Cn
namespace Go.Proofs.YtcihkmnolagdlaaDoor.Cn
open Go Go.Proofs Go.Proofs.YtcihkmnolagdlaaDoor.Av Go.Proofs.YtcihkmnolagdlaaDoor.Sp
set_option linter.unusedVariables false
set_option linter.unusedSimpArgs false
set_option linter.unusedSectionVars false
set_option maxRecDepth 100000
attribute [local irreducible] Fv Fp

def textL (line : Ev → ByteArray) (l : List Ev) : List UInt8 := l.flatMap fun e => (line e ++ ⟨#[10]⟩).data.toList
theorem textL_take {line : Ev → ByteArray} {l : List Ev} {k : Nat} (hk : k < l.length) : textL line (l.take (k + 1)) = textL line (l.take k) ++ (line l[k] ++ ⟨#[10]⟩).data.toList := by
  unfold textL; rw [List.take_add_one, List.getElem?_eq_getElem hk, List.flatMap_append]; simp
theorem textL_len {line : Ev → ByteArray} {l : List Ev} {k : Nat} (hk : k < l.length) : (textL line (l.take k)).length + (line l[k] ++ ⟨#[10]⟩).size ≤ (textL line l).length := by
  have e : textL line l = textL line (l.take (k + 1)) ++ textL line (l.drop (k + 1)) := by unfold textL; rw [← List.flatMap_append, List.take_append_drop]
  rw [e, textL_take hk]; simp only [List.length_append]; rw [size_list]; omega
set_option maxHeartbeats 4000000 in
theorem ev_Text (line : Ev → ByteArray) (l : List Ev) (hn : ∀ e ∈ l, Fv Tryd.prog 39 [.agg e.g] (.str (line e))) (h : (textL line l).length ≤ 1000000000) (hl : l.length < 4611686018427387904) : Fv Tryd.prog 14 [.sl (l.map Ev.g)] (.str (strL (textL line l))) := by
  refine Fv.of_awp Tryd.func14 rfl (by kernel_rfl) rfl (Nat.le_of_ble_eq_true rfl) ?_
  repeat' (conv => whnf
           first
           | (refine And.intro (by kernel_rfl) ?_)
           | (refine And.intro ⟨by kernel_rfl, by kernel_rfl⟩ ?_)
           | (refine cond_f ?_ ?_)
           | (refine ⟨_, ⟨by decide, rfl⟩, ?_⟩)
           | (refine cond_i (fun h => ?_) (fun h => ?_)))
  all_goals (conv => whnf)
  refine Has.each [3, 6, 7, 8] [5] l.length (fun k (b : Bool × Nat) => b.2 = k ∧ (b.1 = false → k = 0)) (fun b i =>
    Bool.rec (motive := fun _ => St) (St.of 18 [(3, .ptrt 3 74 2), (6, .sl (l.map Ev.g)), (7, .int .i64 (l.map Ev.g).length), (8, .int .i64 i)] [(3, bldZ)] [])
     (St.of 18 [(3, .ptrt 3 74 2), (6, .sl (l.map Ev.g)), (7, .int .i64 (l.map Ev.g).length), (8, .int .i64 i)] [(3, [.ptrt 3 74 2, .ownt 15 (bldR (textL line (l.take b.2))).length 5])] [(15, bldR (textL line (l.take b.2)))]) b.1) ⟨(false, 0), 0, rfl, ⟨rfl, fun _ => rfl⟩, rfl⟩ (fun k b hk hI => ?_) (fun b hI => ?_)
  · obtain ⟨b, j⟩ := b
    obtain ⟨rfl, hI⟩ := hI
    simp only at *
    have f1 := row_at (R := Ev.g) hk
    have n1 := hn l[j] (List.getElem_mem hk)
    have hs := textL_len (line := line) hk
    have z1 : (((line l[j]).size + (⟨#[10]⟩ : ByteArray).size : Nat) : Int) ≤ 9223372036854775807 := by rw [ByteArray.size_append] at hs; omega
    have hll : (textL line l).length ≤ 1000000000 := h
    cases b with
    | false =>
      obtain rfl : j = 0 := hI rfl
      have n2 := bld_WriteString0 (line l[0] ++ ⟨#[10]⟩) (by omega)
      refine awp_go ?_
      repeat' (conv => whnf
               first
               | (refine And.intro (by kernel_rfl) ?_)
               | (refine And.intro ⟨by kernel_rfl, by kernel_rfl⟩ ?_)
               | (refine cond_1 (lt_at hk) ?_)
               | (refine ⟨_, f1, ?_⟩)
               | (refine Or.inl ⟨_, n1, ?_⟩)
               | (refine ⟨_, n1, ?_⟩)
               | (refine ⟨z1, ?_⟩)
               | (refine Or.inr ⟨_, n2, ?_⟩)
               | (refine cond_f ?_ ?_)
               | (refine ⟨_, ⟨by decide, rfl⟩, ?_⟩)
               | (refine cond_i (fun h => ?_) (fun h => ?_)))
      all_goals (conv => whnf)
      refine ⟨(true, 1), _, ?_, ⟨rfl, fun h => nomatch h⟩, wrap_i64 (by omega)⟩
      rw [show textL line (l.take 1) = (line l[0] ++ ⟨#[10]⟩).data.toList from by rw [textL_take hk]; rfl]
      rfl
    | true =>
      have n2 := bld_WriteString1 (textL line (l.take j)) (line l[j] ++ ⟨#[10]⟩) (by omega)
      rw [← textL_take hk] at n2
      refine awp_go ?_
      repeat' (conv => whnf
               first
               | (refine And.intro (by kernel_rfl) ?_)
               | (refine And.intro ⟨by kernel_rfl, by kernel_rfl⟩ ?_)
               | (refine cond_1 (lt_at hk) ?_)
               | (refine ⟨_, f1, ?_⟩)
               | (refine Or.inl ⟨_, n1, ?_⟩)
               | (refine ⟨_, n1, ?_⟩)
               | (refine ⟨z1, ?_⟩)
               | (refine Or.inr ⟨_, n2, ?_⟩)
               | (refine cond_f ?_ ?_)
               | (refine ⟨_, ⟨by decide, rfl⟩, ?_⟩)
               | (refine cond_i (fun h => ?_) (fun h => ?_)))
      all_goals (conv => whnf)
      exact ⟨(true, j + 1), _, rfl, ⟨rfl, fun h => nomatch h⟩, wrap_i64 (by omega)⟩
  · obtain ⟨b, j⟩ := b
    obtain ⟨hj, hI⟩ := hI
    simp only at *
    subst hj
    cases b with
    | false =>
      have h0 := hI rfl
      obtain rfl : l = [] := List.length_eq_zero_iff.1 h0
      refine awp_go ?_
      repeat' (conv => whnf
               first
               | (refine And.intro (by kernel_rfl) ?_)
               | (refine And.intro ⟨by kernel_rfl, by kernel_rfl⟩ ?_)
               | (refine cond_0 lt_end ?_)
               | (refine Or.inr ⟨_, bld_String0, ?_⟩)
               | (refine cond_f ?_ ?_)
               | (refine ⟨_, ⟨by decide, rfl⟩, ?_⟩)
               | (refine cond_i (fun h => ?_) (fun h => ?_)))
      all_goals (conv => whnf)
      all_goals rfl
    | true =>
      have n2 := bld_String1 (textL line (l.take l.length)) (by rw [List.take_length]; exact h)
      rw [List.take_length] at n2
      refine awp_go ?_
      rw [List.take_length]
      repeat' (conv => whnf
               first
               | (refine And.intro (by kernel_rfl) ?_)
               | (refine And.intro ⟨by kernel_rfl, by kernel_rfl⟩ ?_)
               | (refine cond_0 lt_end ?_)
               | (refine Or.inr ⟨_, n2, ?_⟩)
               | (refine cond_f ?_ ?_)
               | (refine ⟨_, ⟨by decide, rfl⟩, ?_⟩)
               | (refine cond_i (fun h => ?_) (fun h => ?_)))
      all_goals (conv => whnf)
      all_goals rfl
end Go.Proofs.YtcihkmnolagdlaaDoor.Cn
namespace Go.Proofs.YtcihkmnolagdlaaDoor.Cn
open Go Go.Proofs Go.Proofs.YtcihkmnolagdlaaDoor.Av Go.Proofs.YtcihkmnolagdlaaDoor.Sp
set_option linter.unusedVariables false
set_option linter.unusedSimpArgs false
set_option linter.unusedSectionVars false
set_option maxRecDepth 100000
attribute [local irreducible] Fv Fp

set_option maxHeartbeats 4000000 in
theorem ref25_Same (l : List Ev) (hl : l.length < 4611686018427387904) : Fv Tryd.prog 12 [.sl (l.map Ev.g), .sl (l.map Ev.g)] (.bool true) := by
  have b1 : (((l.map Ev.g).length : Int) != ((l.map Ev.g).length : Int)) = false := by simp
  refine Fv.of_awp Tryd.func12 rfl (by kernel_rfl) rfl (Nat.le_of_ble_eq_true rfl) ?_
  repeat' (conv => whnf
           first
           | (refine And.intro (by kernel_rfl) ?_)
           | (refine And.intro ⟨by kernel_rfl, by kernel_rfl⟩ ?_)
           | (refine cond_0 b1 ?_)
           | (refine cond_f ?_ ?_)
           | (refine ⟨_, ⟨by decide, rfl⟩, ?_⟩)
           | (refine cond_i (fun h => ?_) (fun h => ?_)))
  all_goals (conv => whnf)
  refine Has.each [0, 1, 5] [] l.length (fun _ (_ : Unit) => True) (fun _ i => St.of 26 [(0, .sl (l.map Ev.g)), (1, .sl (l.map Ev.g)), (5, .int .i64 i)] [] []) ⟨(), 0, rfl, trivial, rfl⟩ (fun k _ hk _ => ?_) (fun _ _ => ?_)
  · have f1 := row_at (R := Ev.g) hk
    refine awp_go ?_
    repeat' (conv => whnf
             first
             | (refine And.intro (by kernel_rfl) ?_)
             | (refine And.intro ⟨by kernel_rfl, by kernel_rfl⟩ ?_)
             | (refine cond_1 (lt_at hk) ?_)
             | (refine ⟨_, f1, ?_⟩)
             | (refine cond_f ?_ ?_)
             | (refine ⟨_, ⟨by decide, rfl⟩, ?_⟩)
             | (refine cond_i (fun h => ?_) (fun h => ?_)))
    all_goals (conv => whnf)
    · simp at h
    · exact ⟨(), _, rfl, trivial, up1 hk hl⟩
  · refine awp_go ?_
    repeat' (conv => whnf
             first
             | (refine And.intro (by kernel_rfl) ?_)
             | (refine And.intro ⟨by kernel_rfl, by kernel_rfl⟩ ?_)
             | (refine cond_0 lt_end ?_)
             | (refine cond_f ?_ ?_)
             | (refine ⟨_, ⟨by decide, rfl⟩, ?_⟩)
             | (refine cond_i (fun h => ?_) (fun h => ?_)))
    all_goals (conv => whnf)
    all_goals rfl
end Go.Proofs.YtcihkmnolagdlaaDoor.Cn
namespace Go.Proofs.YtcihkmnolagdlaaDoor.Cn
open Go Go.Proofs Go.Proofs.YtcihkmnolagdlaaDoor.Av Go.Proofs.YtcihkmnolagdlaaDoor.Sp
set_option linter.unusedVariables false
set_option linter.unusedSimpArgs false
set_option linter.unusedSectionVars false
set_option maxRecDepth 100000
attribute [local irreducible] Fv Fp

def w3 (x : Int) : Prop := (Lit.int .i64 x).wf = true
def wId (x : Sp.Id) : Prop := w3 x.node ∧ w3 x.inc ∧ w3 x.seq
def wKey (x : Sp.Key) : Prop := wId x.id ∧ w3 x.att
def wEv (x : Sp.Ev) : Prop := w3 x.kind ∧ w3 x.real ∧ w3 x.node ∧ w3 x.loc ∧ wKey x.key ∧ wKey x.parent ∧ wId x.root ∧ w3 x.hop ∧ w3 x.code ∧ w3 x.value
theorem wId_ok {x : Sp.Id} (h : wId x) : okId x := ⟨wf_i64 h.1, wf_i64 h.2.1, wf_i64 h.2.2⟩
theorem wKey_ok {x : Sp.Key} (h : wKey x) : okKey x := ⟨wId_ok h.1, wf_i64 h.2⟩
theorem ok_wf (l : List Ev) (h : ∀ y ∈ l, wEv y) : ∀ e ∈ l, okEv e := fun e he => by
  obtain ⟨a, b, c, d, p, q, r, s, t, u⟩ := h e he
  exact ⟨⟨wf_i64 b, wf_i64 c, wf_i64 d⟩, wKey_ok p, wKey_ok q, wId_ok r, wf_i64 s, wf_i64 t, wf_i64 u⟩
theorem text_le : ∀ (l : List Ev), (∀ e ∈ l, okEv e) → (textL lineE l).length ≤ 1101 * l.length
  | [], _ => by simp [textL]
  | e :: l, h => by
    have h1 := lineE_size (h e (by simp))
    have h2 := text_le l (fun e he => h e (by simp [he]))
    unfold textL at h2 ⊢
    rw [List.flatMap_cons, List.length_append, size_list, ByteArray.size_append, List.length_cons]
    have z : (⟨#[10]⟩ : ByteArray).size = 1 := rfl
    omega
theorem text_of (l : List Ev) (hl : l.length ≤ 200) (h : ∀ e ∈ l, okEv e) : Fv Tryd.prog 14 [.sl (l.map Ev.g)] (.str (strL (textL lineE l))) :=
  ev_Text lineE l (fun e he => ev_Line e (h e he)) (by have := text_le l h; omega) (by omega)
theorem both_eq (l m : List Ev) : (((((l.map Ev.g).drop 0).take (l.map Ev.g).length ++ m.map Ev.g).drop 0).take ((l.map Ev.g).length + (m.map Ev.g).length)) = (l ++ m).map Ev.g := by
  rw [List.drop_zero, List.drop_zero, List.take_length, List.map_append]
  exact List.take_of_length_le (by simp)
theorem evOkRows (l : List Ev) : okRows (Tryd.prog.cellsOf 30) (l.map Ev.g) = true := ok_map 18 (by kernel_rfl) (fun _ => rfl) (fun _ => rfl)
theorem ev_ap2 {l m : List Ev} (h : l.length + m.length ≤ 1000) : 0 + (l.map Ev.g).length ≤ (l.map Ev.g).length ∧ (0 < (l.map Ev.g).length + (m.map Ev.g).length ∨ l.map Ev.g = []) ∧ fitsB Tryd.prog 30 ((l.map Ev.g).length + (m.map Ev.g).length) ∧
    ∀ r ∈ l.map Ev.g, r.length = Tryd.prog.cellsOf 30 := by
  refine ⟨by omega, ?_, fits 144 (by kernel_rfl) (by simp only [List.length_map]; omega), ev_len⟩
  cases l with
  | nil => exact .inr rfl
  | cons e l => exact .inl (by simp only [List.map_cons, List.length_cons]; omega)
theorem strL_size (l : List UInt8) : (strL l).size = l.length := by show l.toArray.size = _; simp
theorem text_app (l m : List Ev) : strEq (strL (textL lineE (l ++ m))) (strL (textL lineE l) ++ strL (textL lineE m)) = true := by
  have e : strL (textL lineE (l ++ m)) = strL (textL lineE l) ++ strL (textL lineE m) := by
    unfold textL strL
    rw [List.flatMap_append]
    apply ByteArray.ext
    apply Array.toList_inj.1
    simp
  rw [e]; exact strEq_self _
set_option maxHeartbeats 8000000 in
theorem law25_EventCommutes (l m : List Ev) (kind : Int) (k : Sp.Key) (h1 : ∀ e ∈ l, okEv e) (h2 : ∀ e ∈ m, okEv e) : Fv Tryd.prog 4 [.sl (l.map Ev.g), .sl (m.map Ev.g), .int .i64 kind, .agg k.g] (.bool true) := by
  have aw := law25_awake
  refine Fv.of_awp Tryd.func4 rfl (by kernel_rfl) rfl (Nat.le_of_ble_eq_true rfl) ?_
  by_cases hl : l.length > 60
  · have b1 : decide (((l.map Ev.g).length : Int) > 60) = true := decide_eq_true (by rw [List.length_map]; omega)
    repeat' (conv => whnf
             first
             | (refine And.intro (by kernel_rfl) ?_)
             | (refine And.intro ⟨by kernel_rfl, by kernel_rfl⟩ ?_)
             | (refine cond_1 b1 ?_)
             | (refine Or.inl ⟨_, aw, ?_⟩)
             | (refine ⟨_, aw, ?_⟩)
             | (refine cond_f ?_ ?_)
             | (refine ⟨_, ⟨by decide, rfl⟩, ?_⟩)
             | (refine cond_i (fun h => ?_) (fun h => ?_)))
    all_goals (conv => whnf)
    all_goals rfl
  have b1 : decide (((l.map Ev.g).length : Int) > 60) = false := decide_eq_false (by rw [List.length_map]; omega)
  by_cases hm : m.length > 60
  · have b2 : decide (((m.map Ev.g).length : Int) > 60) = true := decide_eq_true (by rw [List.length_map]; omega)
    repeat' (conv => whnf
             first
             | (refine And.intro (by kernel_rfl) ?_)
             | (refine And.intro ⟨by kernel_rfl, by kernel_rfl⟩ ?_)
             | (refine cond_0 b1 ?_)
             | (refine cond_1 b2 ?_)
             | (refine Or.inl ⟨_, aw, ?_⟩)
             | (refine ⟨_, aw, ?_⟩)
             | (refine cond_f ?_ ?_)
             | (refine ⟨_, ⟨by decide, rfl⟩, ?_⟩)
             | (refine cond_i (fun h => ?_) (fun h => ?_)))
    all_goals (conv => whnf)
    all_goals rfl
  have b2 : decide (((m.map Ev.g).length : Int) > 60) = false := decide_eq_false (by rw [List.length_map]; omega)
  have n1 := ev_Key l k (by omega)
  have n2 := ev_Of (l.filter fun e => keyP k e) kind (by have := List.length_filter_le (fun e => keyP k e) l; omega)
  have n3 := ev_Of l kind (by omega)
  have n4 := ev_Key (l.filter fun e => e.kind == kind) k (by have := List.length_filter_le (fun e : Ev => e.kind == kind) l; omega)
  have e4 : ((l.filter fun e => e.kind == kind).filter fun e => keyP k e) = ((l.filter fun e => keyP k e).filter fun e => e.kind == kind) := by
    rw [List.filter_filter, List.filter_filter]; congr 1; funext e; exact Bool.and_comm _ _
  rw [e4] at n4
  have n5 := ref25_Same ((l.filter fun e => keyP k e).filter fun e => e.kind == kind) (by
    have q1 := List.length_filter_le (fun e => keyP k e) l
    have q2 := List.length_filter_le (fun e : Ev => e.kind == kind) (l.filter fun e => keyP k e)
    omega)
  have n6 := text_of (l ++ m) (by rw [List.length_append]; omega) (fun e he => by rcases List.mem_append.1 he with he | he; exact h1 e he; exact h2 e he)
  have n7 := text_of l (by omega) h1
  have n8 := text_of m (by omega) h2
  have e9 := text_app l m
  have z1 : (((strL (textL lineE l)).size + (strL (textL lineE m)).size : Nat) : Int) ≤ 9223372036854775807 := by
    have q1 := text_le l h1; have q2 := text_le m h2
    rw [strL_size, strL_size]; omega
  rw [← both_eq] at n6
  have o1 := evOkRows l
  have o2 := evOkRows m
  have f1 : (2 * (l.map Ev.g).length + 1024) * 144 ≤ 281474976710656 := by rw [List.length_map]; omega
  have f2 := ev_ap2 (l := l) (m := m) (by omega)
  have f3 : 0 + ((l.map Ev.g).length + (m.map Ev.g).length) ≤ (((l.map Ev.g).drop 0).take (l.map Ev.g).length ++ m.map Ev.g).length := by simp
  repeat' (conv => whnf
           first
           | (refine And.intro (by kernel_rfl) ?_)
           | (refine And.intro ⟨by kernel_rfl, by kernel_rfl⟩ ?_)
           | (refine cond_0 b1 ?_)
           | (refine cond_0 b2 ?_)
           | (refine cond_1 o1 ?_)
           | (refine cond_1 o2 ?_)
           | (refine ⟨fits 144 (by kernel_rfl) f1, ?_⟩)
           | (refine ⟨f2, ?_⟩)
           | (refine Or.inl ⟨_, n1, ?_⟩)
           | (refine ⟨_, n1, ?_⟩)
           | (refine Or.inl ⟨_, n2, ?_⟩)
           | (refine ⟨_, n2, ?_⟩)
           | (refine Or.inl ⟨_, n3, ?_⟩)
           | (refine ⟨_, n3, ?_⟩)
           | (refine Or.inl ⟨_, n4, ?_⟩)
           | (refine ⟨_, n4, ?_⟩)
           | (refine Or.inl ⟨_, n5, ?_⟩)
           | (refine ⟨_, n5, ?_⟩)
           | (refine Or.inl ⟨_, n7, ?_⟩)
           | (refine ⟨_, n7, ?_⟩)
           | (refine Or.inl ⟨_, n8, ?_⟩)
           | (refine ⟨_, n8, ?_⟩)
           | (refine Or.inl ?_)
           | (refine ⟨f3, ?_⟩)
           | (refine Or.inl ⟨_, n6, ?_⟩)
           | (refine ⟨_, n6, ?_⟩)
           | (refine ⟨z1, ?_⟩)
           | (refine cond_1 e9 ?_)
           | (refine Or.inl ⟨_, aw, ?_⟩)
           | (refine ⟨_, aw, ?_⟩)
           | (refine cond_f ?_ ?_)
           | (refine ⟨_, ⟨by decide, rfl⟩, ?_⟩)
           | (refine cond_i (fun h => ?_) (fun h => ?_)))
  all_goals (conv => whnf)
  all_goals rfl
end Go.Proofs.YtcihkmnolagdlaaDoor.Cn
namespace Go.Proofs.YtcihkmnolagdlaaDoor.Cn
open Go Go.Proofs Go.Proofs.YtcihkmnolagdlaaDoor.Av Go.Proofs.YtcihkmnolagdlaaDoor.Sp
set_option linter.unusedVariables false
set_option linter.unusedSimpArgs false
set_option linter.unusedSectionVars false
set_option maxRecDepth 100000
attribute [local irreducible] Fv Fp

theorem eqT_key (a q : Sp.Key) : eqT Tryd.prog 12 28 a.g q.g = some (decide (a = q)) := by
  rw [← key_eqB]; rfl
/-- Does a row of a set of keys bear this key? -/
noncomputable def keyF (a : Sp.Key) (r : List G) : Bool := (eqT Tryd.prog 12 28 a.g (r.take 4)).getD false
def setR (q : Sp.Key) : List G := q.g ++ []
theorem setR_take (q : Sp.Key) : (setR q).take 4 = q.g := rfl
theorem keyF_eq (a q : Sp.Key) : keyF a (setR q) = decide (a = q) := by unfold keyF; rw [setR_take, eqT_key]; rfl
theorem key_look (a : Sp.Key) (l : List Sp.Key) : ∀ r ∈ l.map setR, eqT Tryd.prog 12 28 (G.agg a.g).cells (r.take 4) = some (keyF a r) := fun r hr => by
  obtain ⟨q, _, rfl⟩ := List.mem_map.1 hr
  rw [keyF_eq]; exact eqT_key a q
theorem key_put (a : Sp.Key) (l : List Sp.Key) : ∀ r ∈ l.map setR, eqT Tryd.prog 12 28 (G.agg a.g).cells (r.take 4) = some (keyF a r) ∧ (keyF a r = true → r.take 4 = (G.agg a.g).cells) := fun r hr => by
  refine ⟨key_look a l r hr, fun h => ?_⟩
  obtain ⟨q, _, rfl⟩ := List.mem_map.1 hr
  rw [keyF_eq] at h
  rw [of_decide_eq_true h]; rfl
theorem hit_key (a : Sp.Key) : ∀ (l : List Sp.Key), (a ∈ l → ∃ i q, hitI (keyF a) (l.map setR) = some i ∧ l[i]? = some q) ∧ (a ∉ l → hitI (keyF a) (l.map setR) = none)
  | [] => ⟨fun h => by simp at h, fun _ => rfl⟩
  | q :: l => by
    obtain ⟨h1, h2⟩ := hit_key a l
    unfold List.map hitI
    rw [keyF_eq]
    by_cases e : a = q
    · rw [decide_eq_true e]
      exact ⟨fun _ => ⟨0, q, rfl, rfl⟩, fun h => absurd (by simp [e]) h⟩
    · rw [decide_eq_false e]
      refine ⟨fun h => ?_, fun h => ?_⟩
      · obtain ⟨i, x, q1, q2⟩ := h1 (by simpa [e] using h)
        exact ⟨i + 1, x, by rw [cond_false, q1]; rfl, by simpa using q2⟩
      · rw [cond_false, h2 (fun hm => h (by simp [hm]))]; rfl
theorem look_set (a : Sp.Key) (l : List Sp.Key) : Look (keyF a) 4 [] (l.map setR) [] (decide (a ∈ l)) := by
  obtain ⟨h1, h2⟩ := hit_key a l
  by_cases h : a ∈ l
  · rw [decide_eq_true h]
    obtain ⟨i, q, q1, q2⟩ := h1 h
    exact .inl ⟨i, setR q, q1, by rw [List.getElem?_map, q2]; rfl, rfl, rfl⟩
  · rw [decide_eq_false h]; exact .inr ⟨h2 h, rfl, rfl⟩
theorem put_set (a : Sp.Key) (l : List Sp.Key) (h : a ∉ l) : mput (keyF a) (setR a) (l.map setR) = (l ++ [a]).map setR := by
  unfold mput; rw [(hit_key a l).2 h, List.map_append]; rfl
/-- The set, and the row, as a loop's head tells them. -/
def BelI (k : Sp.Key) (l : List Ev) (j : Nat) (b : List (List G) × Nat × List (List G)) : Prop :=
  b.1 = (k :: belowL k (l.take j)).map setR ∧ b.2.1 = (belowL k (l.take j)).length ∧ b.2.2 = (belowL k (l.take j)).map Key.g
theorem key_app {l : List Sp.Key} (h : l.length ≤ 1000) : 0 + l.length ≤ (l.map Key.g).length ∧ (0 < l.length + 1 ∨ l.map Key.g = []) ∧ fitsB Tryd.prog 28 (l.length + 1) ∧
    ∀ r ∈ l.map Key.g, r.length = Tryd.prog.cellsOf 28 := by
  refine ⟨by simp, .inl (by omega), fits 32 (by kernel_rfl) (by omega), fun r hr => ?_⟩
  obtain ⟨q, _, rfl⟩ := List.mem_map.1 hr
  rw [show Tryd.prog.cellsOf 28 = 4 from by kernel_rfl]; rfl
theorem key_snoc {l : List Sp.Key} {a : Sp.Key} : ((l.map Key.g).drop 0).take l.length ++ [a.g] = (l ++ [a]).map Key.g := by
  rw [List.drop_zero, List.map_append, List.take_of_length_le (by simp)]; rfl
set_option maxHeartbeats 8000000 in
theorem ev_Below (l : List Ev) (k : Sp.Key) (hl : l.length ≤ 200) : Fv Tryd.prog 15 [.sl (l.map Ev.g), .agg k.g] (.sl ((belowL k l).map Key.g)) := by
  refine Fv.of_awp Tryd.func15 rfl (by kernel_rfl) rfl (Nat.le_of_ble_eq_true rfl) ?_
  have p0 := key_put k []
  repeat' (conv => whnf
           first
           | (refine And.intro (by kernel_rfl) ?_)
           | (refine And.intro ⟨by kernel_rfl, by kernel_rfl⟩ ?_)
           | (refine ⟨keyF k, p0, ?_⟩)
           | (refine cond_f ?_ ?_)
           | (refine ⟨_, ⟨by decide, rfl⟩, ?_⟩)
           | (refine cond_i (fun h => ?_) (fun h => ?_)))
  all_goals (conv => whnf)
  refine Has.own0 6 55 rfl rfl ?_
  refine Has.each [5, 6, 17, 18, 19] [3, 8, 9, 11] l.length (BelI k l) (fun b i =>
    St.of 58 [(5, .mp 13 4 3), (6, .own 55 0 b.2.1), (17, .sl (l.map Ev.g)), (18, .int .i64 (l.map Ev.g).length), (19, .int .i64 i)] [] [(13, b.1), (55, b.2.2)]) ⟨([setR k], 0, []), _, rfl, ⟨rfl, rfl, rfl⟩, rfl⟩ (fun j b hj hI => ?_) (fun b hI => ?_)
  · obtain ⟨M, n, R⟩ := b
    obtain ⟨hM, hn, hR⟩ := hI
    simp only at hM hn hR
    subst hM; subst hn; subst hR
    have f1 := row_at (R := Ev.g) hj
    have hlen := belowL_len k (l.take j)
    rw [List.length_take] at hlen
    have hstep := belowL_take (k := k) hj
    generalize belowL k (l.take j) = out at *
    generalize l[j] = e at *
    have k1 := key_look e.parent (k :: out)
    have k2 := key_look e.key (k :: out)
    have k3 := key_put e.key (k :: out)
    have l1 := look_set e.parent (k :: out)
    have l2 := look_set e.key (k :: out)
    have wj := up1 hj (show l.length < 4611686018427387904 by omega)
    by_cases c1 : e.kind = 3
    · have b1 : (e.kind == 3) = true := by simpa using c1
      by_cases c2 : e.parent ∈ k :: out
      · rw [decide_eq_true c2] at l1
        by_cases c3 : e.key ∈ k :: out
        · rw [decide_eq_true c3] at l2
          rw [belowStep, if_neg (fun h => h.2.2 c3)] at hstep
          refine awp_go ?_
          repeat' (conv => whnf
                   first
                   | (refine And.intro (by kernel_rfl) ?_)
                   | (refine And.intro ⟨by kernel_rfl, by kernel_rfl⟩ ?_)
                   | (refine cond_1 (lt_at hj) ?_)
                   | (refine ⟨_, f1, ?_⟩)
                   | (refine ⟨keyF e.parent, k1, [], _, l1, ?_⟩)
                   | (refine ⟨keyF e.key, k2, [], _, l2, ?_⟩)
                   | (refine cond_1 b1 ?_)
                   | (refine cond_f ?_ ?_)
                   | (refine ⟨_, ⟨by decide, rfl⟩, ?_⟩)
                   | (refine cond_i (fun h => ?_) (fun h => ?_)))
          all_goals (conv => whnf)
          exact ⟨(_, _, _), _, rfl, ⟨by rw [hstep], by rw [hstep], by rw [hstep]⟩, wj⟩
        · rw [decide_eq_false c3] at l2
          rw [belowStep, if_pos ⟨c1, c2, c3⟩] at hstep
          have a1 := key_app (l := out) (by omega)
          have a2 := put_set e.key (k :: out) c3
          refine awp_go ?_
          repeat' (conv => whnf
                   first
                   | (refine And.intro (by kernel_rfl) ?_)
                   | (refine And.intro ⟨by kernel_rfl, by kernel_rfl⟩ ?_)
                   | (refine cond_1 (lt_at hj) ?_)
                   | (refine ⟨_, f1, ?_⟩)
                   | (refine ⟨keyF e.parent, k1, [], _, l1, ?_⟩)
                   | (refine ⟨keyF e.key, k2, [], _, l2, ?_⟩)
                   | (refine cond_1 b1 ?_)
                   | (refine ⟨keyF e.key, k3, ?_⟩)
                   | (refine ⟨a1, ?_⟩)
                   | (refine cond_f ?_ ?_)
                   | (refine ⟨_, ⟨by decide, rfl⟩, ?_⟩)
                   | (refine cond_i (fun h => ?_) (fun h => ?_)))
          all_goals (conv => whnf)
          refine ⟨(_, _, _), _, rfl, ⟨?_, ?_, ?_⟩, wj⟩
          · rw [hstep]; exact a2
          · rw [hstep, List.length_append]; rfl
          · rw [hstep]; exact key_snoc
      · rw [decide_eq_false c2] at l1
        rw [belowStep, if_neg (fun h => c2 h.2.1)] at hstep
        refine awp_go ?_
        repeat' (conv => whnf
                 first
                 | (refine And.intro (by kernel_rfl) ?_)
                 | (refine And.intro ⟨by kernel_rfl, by kernel_rfl⟩ ?_)
                 | (refine cond_1 (lt_at hj) ?_)
                 | (refine ⟨_, f1, ?_⟩)
                 | (refine ⟨keyF e.parent, k1, [], _, l1, ?_⟩)
                 | (refine ⟨keyF e.key, k2, [], _, l2, ?_⟩)
                 | (refine cond_1 b1 ?_)
                 | (refine cond_f ?_ ?_)
                 | (refine ⟨_, ⟨by decide, rfl⟩, ?_⟩)
                 | (refine cond_i (fun h => ?_) (fun h => ?_)))
        all_goals (conv => whnf)
        exact ⟨(_, _, _), _, rfl, ⟨by rw [hstep], by rw [hstep], by rw [hstep]⟩, wj⟩
    · have b1 : (e.kind == 3) = false := by simpa using c1
      rw [belowStep, if_neg (fun h => c1 h.1)] at hstep
      refine awp_go ?_
      repeat' (conv => whnf
               first
               | (refine And.intro (by kernel_rfl) ?_)
               | (refine And.intro ⟨by kernel_rfl, by kernel_rfl⟩ ?_)
               | (refine cond_1 (lt_at hj) ?_)
               | (refine ⟨_, f1, ?_⟩)
               | (refine ⟨keyF e.parent, k1, [], _, l1, ?_⟩)
               | (refine ⟨keyF e.key, k2, [], _, l2, ?_⟩)
               | (refine cond_0 b1 ?_)
               | (refine cond_f ?_ ?_)
               | (refine ⟨_, ⟨by decide, rfl⟩, ?_⟩)
               | (refine cond_i (fun h => ?_) (fun h => ?_)))
      all_goals (conv => whnf)
      exact ⟨(_, _, _), _, rfl, ⟨by rw [hstep], by rw [hstep], by rw [hstep]⟩, wj⟩
  · obtain ⟨M, n, R⟩ := b
    obtain ⟨hM, hn, hR⟩ := hI
    simp only at hM hn hR
    subst hM; subst hn; subst hR
    rw [List.take_length]
    have h5 := own_le1 (l := belowL k l) (R := Key.g)
    have h6 := own_all1 (l := belowL k l) (R := Key.g)
    refine awp_go ?_
    repeat' (conv => whnf
             first
             | (refine And.intro (by kernel_rfl) ?_)
             | (refine And.intro ⟨by kernel_rfl, by kernel_rfl⟩ ?_)
             | (refine cond_0 lt_end ?_)
             | (refine ⟨h5, ?_⟩)
             | (rw [h6])
             | (refine cond_f ?_ ?_)
             | (refine ⟨_, ⟨by decide, rfl⟩, ?_⟩)
             | (refine cond_i (fun h => ?_) (fun h => ?_)))
    all_goals (conv => whnf)
    all_goals rfl
end Go.Proofs.YtcihkmnolagdlaaDoor.Cn
namespace Go.Proofs.YtcihkmnolagdlaaDoor.Cn
open Go Go.Proofs Go.Proofs.YtcihkmnolagdlaaDoor.Av Go.Proofs.YtcihkmnolagdlaaDoor.Sp
set_option linter.unusedVariables false
set_option linter.unusedSimpArgs false
set_option linter.unusedSectionVars false
set_option maxRecDepth 100000
attribute [local irreducible] Fv Fp

theorem has_take {a : Sp.Key} {l : List Sp.Key} {j : Nat} (hj : j < l.length) (h : a ∉ l.take j) (h2 : l[j] ≠ a) : a ∉ l.take (j + 1) := by
  rw [take_snoc hj, List.mem_append]; simp only [List.mem_singleton]
  rintro (h3 | h3)
  · exact h h3
  · exact h2 h3.symm
set_option maxHeartbeats 4000000 in
theorem ref25_Has (l : List Sp.Key) (a : Sp.Key) (hl : l.length < 4611686018427387904) : Fv Tryd.prog 16 [.sl (l.map Key.g), .agg a.g] (.bool (decide (a ∈ l))) := by
  refine Fv.of_awp Tryd.func16 rfl (by kernel_rfl) rfl (Nat.le_of_ble_eq_true rfl) ?_
  repeat' (conv => whnf
           first
           | (refine And.intro (by kernel_rfl) ?_)
           | (refine And.intro ⟨by kernel_rfl, by kernel_rfl⟩ ?_)
           | (refine cond_f ?_ ?_)
           | (refine ⟨_, ⟨by decide, rfl⟩, ?_⟩)
           | (refine cond_i (fun h => ?_) (fun h => ?_)))
  all_goals (conv => whnf)
  refine Has.each [0, 3, 5] [] l.length (fun j (_ : Unit) => a ∉ l.take j) (fun _ i => St.of 18 [(0, .sl (l.map Key.g)), (3, .ptr 3 0), (5, .int .i64 i)] [(3, a.g)] []) ⟨(), 0, rfl, by simp, rfl⟩ (fun j _ hj hI => ?_) (fun _ hI => ?_)
  · have f1 := row_at (R := Key.g) hj
    have e1 := key_eqB l[j] a
    by_cases h : l[j] = a
    · rw [decide_eq_true h] at e1
      have hm : a ∈ l := h ▸ List.getElem_mem hj
      rw [decide_eq_true hm]
      refine awp_go ?_
      repeat' (conv => whnf
               first
               | (refine And.intro (by kernel_rfl) ?_)
               | (refine And.intro ⟨by kernel_rfl, by kernel_rfl⟩ ?_)
               | (refine cond_1 (lt_at hj) ?_)
               | (refine ⟨_, f1, ?_⟩)
               | (refine cond_1 e1 ?_)
               | (refine cond_f ?_ ?_)
               | (refine ⟨_, ⟨by decide, rfl⟩, ?_⟩)
               | (refine cond_i (fun h => ?_) (fun h => ?_)))
      all_goals (conv => whnf)
      all_goals rfl
    · rw [decide_eq_false h] at e1
      refine awp_go ?_
      repeat' (conv => whnf
               first
               | (refine And.intro (by kernel_rfl) ?_)
               | (refine And.intro ⟨by kernel_rfl, by kernel_rfl⟩ ?_)
               | (refine cond_1 (lt_at hj) ?_)
               | (refine ⟨_, f1, ?_⟩)
               | (refine cond_0 e1 ?_)
               | (refine cond_f ?_ ?_)
               | (refine ⟨_, ⟨by decide, rfl⟩, ?_⟩)
               | (refine cond_i (fun h => ?_) (fun h => ?_)))
      all_goals (conv => whnf)
      exact ⟨(), _, rfl, has_take hj hI h, up1 hj hl⟩
  · rw [List.take_length] at hI
    rw [decide_eq_false hI]
    refine awp_go ?_
    repeat' (conv => whnf
             first
             | (refine And.intro (by kernel_rfl) ?_)
             | (refine And.intro ⟨by kernel_rfl, by kernel_rfl⟩ ?_)
             | (refine cond_0 lt_end ?_)
             | (refine cond_f ?_ ?_)
             | (refine ⟨_, ⟨by decide, rfl⟩, ?_⟩)
             | (refine cond_i (fun h => ?_) (fun h => ?_)))
    all_goals (conv => whnf)
    all_goals rfl
theorem below_mono {k : Sp.Key} {out : List Sp.Key} {e : Ev} {a : Sp.Key} (h : a ∈ out) : a ∈ belowStep k out e := by
  unfold belowStep; split
  · exact List.mem_append_left _ h
  · exact h
theorem below_up {k : Sp.Key} {l : List Ev} {a : Sp.Key} : ∀ (m j : Nat), j + m ≤ l.length → a ∈ belowL k (l.take j) → a ∈ belowL k (l.take (j + m))
  | 0, j, _, h => h
  | m + 1, j, hl, h => by
    have h1 := below_up m j (by omega) h
    rw [show j + (m + 1) = j + m + 1 from rfl, belowL_take (show j + m < l.length by omega)]
    exact below_mono h1
theorem below_in {k : Sp.Key} {l : List Ev} {j : Nat} (hj : j < l.length) (h1 : l[j].kind = 3) (h2 : l[j].key ≠ k) (h3 : l[j].parent = k ∨ l[j].parent ∈ belowL k (l.take j)) : l[j].key ∈ belowL k l := by
  have : l[j].key ∈ belowL k (l.take (j + 1)) := by
    rw [belowL_take hj]
    unfold belowStep
    by_cases h4 : l[j].key ∈ k :: belowL k (l.take j)
    · rw [if_neg (fun h => h.2.2 h4)]
      rcases List.mem_cons.1 h4 with h5 | h5
      · exact absurd h5 h2
      · exact h5
    · rw [if_pos ⟨h1, List.mem_cons.2 h3, h4⟩]; simp
  have := below_up (l.length - (j + 1)) (j + 1) (by omega) this
  rwa [show j + 1 + (l.length - (j + 1)) = l.length from by omega, List.take_length] at this
theorem below_not (k : Sp.Key) (l : List Ev) : k ∉ belowL k l := by
  have : ∀ (l : List Ev) (out : List Sp.Key), k ∉ out → k ∉ l.foldl (belowStep k) out := by
    intro l
    induction l with
    | nil => intro out h; exact h
    | cons e l ih =>
      intro out h
      refine ih _ ?_
      unfold belowStep
      split
      · rename_i hc
        rw [List.mem_append]
        rintro (h2 | h2)
        · exact h h2
        · simp only [List.mem_singleton] at h2
          exact hc.2.2 (by rw [← h2]; simp)
      · exact h
  exact this l [] (by simp)
theorem ev_cut {l : List Ev} {j : Nat} : (((l.map Ev.g).take ((j : Int)).toNat).drop 0) = (l.take j).map Ev.g := by
  rw [List.drop_zero, Int.toNat_natCast, List.map_take]
theorem ev_cells (l : List Ev) : ∀ r ∈ l.map Ev.g, r.length = Tryd.prog.cellsOf 30 := fun r hr => by
  obtain ⟨e, _, rfl⟩ := List.mem_map.1 hr
  rw [show Tryd.prog.cellsOf 30 = 18 from by kernel_rfl]; rfl
set_option maxHeartbeats 8000000 in
theorem law25_EventBelow (l : List Ev) (k : Sp.Key) : Fv Tryd.prog 5 [.sl (l.map Ev.g), .agg k.g] (.bool true) := by
  have aw := law25_awake
  refine Fv.of_awp Tryd.func5 rfl (by kernel_rfl) rfl (Nat.le_of_ble_eq_true rfl) ?_
  by_cases hl : l.length > 60
  · have b1 : decide (((l.map Ev.g).length : Int) > 60) = true := decide_eq_true (by rw [List.length_map]; omega)
    repeat' (conv => whnf
             first
             | (refine And.intro (by kernel_rfl) ?_)
             | (refine And.intro ⟨by kernel_rfl, by kernel_rfl⟩ ?_)
             | (refine cond_1 b1 ?_)
             | (refine Or.inl ⟨_, aw, ?_⟩)
             | (refine ⟨_, aw, ?_⟩)
             | (refine cond_f ?_ ?_)
             | (refine ⟨_, ⟨by decide, rfl⟩, ?_⟩)
             | (refine cond_i (fun h => ?_) (fun h => ?_)))
    all_goals (conv => whnf)
    all_goals rfl
  have b1 : decide (((l.map Ev.g).length : Int) > 60) = false := decide_eq_false (by rw [List.length_map]; omega)
  have n0 := ev_Below l k (by omega)
  have hlen := belowL_len k l
  repeat' (conv => whnf
           first
           | (refine And.intro (by kernel_rfl) ?_)
           | (refine And.intro ⟨by kernel_rfl, by kernel_rfl⟩ ?_)
           | (refine cond_0 b1 ?_)
           | (refine Or.inl ⟨_, n0, ?_⟩)
           | (refine ⟨_, n0, ?_⟩)
           | (refine cond_f ?_ ?_)
           | (refine ⟨_, ⟨by decide, rfl⟩, ?_⟩)
           | (refine cond_i (fun h => ?_) (fun h => ?_)))
  all_goals (conv => whnf)
  refine Has.each [0, 3, 5, 6] [7] l.length (fun _ (_ : Unit) => True) (fun _ i => St.of 67 [(0, .sl (l.map Ev.g)), (3, .ptr 3 0), (5, .sl ((belowL k l).map Key.g)), (6, .int .i64 i)] [(3, k.g)] []) ⟨(), 0, rfl, trivial, rfl⟩ (fun j _ hj _ => ?_) (fun _ _ => ?_)
  · have f1 := row_at (R := Ev.g) hj
    have wj := up1 hj (show l.length < 4611686018427387904 by omega)
    have n1 := ev_Below (l.take j) k (by rw [List.length_take]; omega)
    rw [← ev_cut] at n1
    have s1 : (0 : Int) ≤ 0 ∧ (0 : Int) ≤ (j : Int) ∧ (j : Int) ≤ ((l.map Ev.g).length : Int) ∧ ∀ r ∈ l.map Ev.g, r.length = Tryd.prog.cellsOf 30 := ⟨by omega, by omega, by rw [List.length_map]; omega, ev_cells l⟩
    have n2 := ref25_Has (belowL k (l.take j)) l[j].parent (by have := belowL_len k (l.take j); rw [List.length_take] at this; omega)
    have n3 := ref25_Has (belowL k l) l[j].key (by omega)
    have e1 := key_eqB l[j].key k
    have e2 := key_eqB l[j].parent k
    have hin := below_in (k := k) hj
    by_cases c1 : l[j].kind = 3
    · have d1 : (l[j].kind != 3) = false := by simpa using c1
      by_cases c2 : l[j].key = k
      · rw [decide_eq_true c2] at e1
        refine awp_go ?_
        repeat' (conv => whnf
                 first
                 | (refine And.intro (by kernel_rfl) ?_)
                 | (refine And.intro ⟨by kernel_rfl, by kernel_rfl⟩ ?_)
                 | (refine cond_1 (lt_at hj) ?_)
                 | (refine ⟨_, f1, ?_⟩)
                 | (refine cond_0 d1 ?_)
                 | (refine cond_1 e1 ?_)
                 | (refine cond_f ?_ ?_)
                 | (refine ⟨_, ⟨by decide, rfl⟩, ?_⟩)
                 | (refine cond_i (fun h => ?_) (fun h => ?_)))
        all_goals (conv => whnf)
        exact ⟨(), _, rfl, trivial, wj⟩
      · rw [decide_eq_false c2] at e1
        by_cases c3 : l[j].parent = k
        · rw [decide_eq_true c3] at e2
          rw [decide_eq_true (hin c1 c2 (.inl c3))] at n3
          by_cases c4 : l[j].parent ∈ belowL k (l.take j)
          · rw [decide_eq_true c4] at n2
            refine awp_go ?_
            repeat' (conv => whnf
                     first
                     | (refine And.intro (by kernel_rfl) ?_)
                     | (refine And.intro ⟨by kernel_rfl, by kernel_rfl⟩ ?_)
                     | (refine cond_1 (lt_at hj) ?_)
                     | (refine ⟨_, f1, ?_⟩)
                     | (refine cond_0 d1 ?_)
                     | (refine cond_0 e1 ?_)
                     | (refine cond_1 e2 ?_)
                     | (refine Or.inl ⟨_, n3, ?_⟩)
                     | (refine ⟨_, n3, ?_⟩)
                     | (refine ⟨s1, ?_⟩)
                     | (refine Or.inl ⟨_, n1, ?_⟩)
                     | (refine ⟨_, n1, ?_⟩)
                     | (refine Or.inl ⟨_, n2, ?_⟩)
                     | (refine ⟨_, n2, ?_⟩)
                     | (refine cond_f ?_ ?_)
                     | (refine ⟨_, ⟨by decide, rfl⟩, ?_⟩)
                     | (refine cond_i (fun h => ?_) (fun h => ?_)))
            all_goals (conv => whnf)
            exact ⟨(), _, rfl, trivial, wj⟩
          · rw [decide_eq_false c4] at n2
            refine awp_go ?_
            repeat' (conv => whnf
                     first
                     | (refine And.intro (by kernel_rfl) ?_)
                     | (refine And.intro ⟨by kernel_rfl, by kernel_rfl⟩ ?_)
                     | (refine cond_1 (lt_at hj) ?_)
                     | (refine ⟨_, f1, ?_⟩)
                     | (refine cond_0 d1 ?_)
                     | (refine cond_0 e1 ?_)
                     | (refine cond_1 e2 ?_)
                     | (refine Or.inl ⟨_, n3, ?_⟩)
                     | (refine ⟨_, n3, ?_⟩)
                     | (refine ⟨s1, ?_⟩)
                     | (refine Or.inl ⟨_, n1, ?_⟩)
                     | (refine ⟨_, n1, ?_⟩)
                     | (refine Or.inl ⟨_, n2, ?_⟩)
                     | (refine ⟨_, n2, ?_⟩)
                     | (refine cond_f ?_ ?_)
                     | (refine ⟨_, ⟨by decide, rfl⟩, ?_⟩)
                     | (refine cond_i (fun h => ?_) (fun h => ?_)))
            all_goals (conv => whnf)
            exact ⟨(), _, rfl, trivial, wj⟩
        · rw [decide_eq_false c3] at e2
          by_cases c4 : l[j].parent ∈ belowL k (l.take j)
          · rw [decide_eq_true c4] at n2
            rw [decide_eq_true (hin c1 c2 (.inr c4))] at n3
            refine awp_go ?_
            repeat' (conv => whnf
                     first
                     | (refine And.intro (by kernel_rfl) ?_)
                     | (refine And.intro ⟨by kernel_rfl, by kernel_rfl⟩ ?_)
                     | (refine cond_1 (lt_at hj) ?_)
                     | (refine ⟨_, f1, ?_⟩)
                     | (refine cond_0 d1 ?_)
                     | (refine cond_0 e1 ?_)
                     | (refine cond_0 e2 ?_)
                     | (refine Or.inl ⟨_, n3, ?_⟩)
                     | (refine ⟨_, n3, ?_⟩)
                     | (refine ⟨s1, ?_⟩)
                     | (refine Or.inl ⟨_, n1, ?_⟩)
                     | (refine ⟨_, n1, ?_⟩)
                     | (refine Or.inl ⟨_, n2, ?_⟩)
                     | (refine ⟨_, n2, ?_⟩)
                     | (refine cond_f ?_ ?_)
                     | (refine ⟨_, ⟨by decide, rfl⟩, ?_⟩)
                     | (refine cond_i (fun h => ?_) (fun h => ?_)))
            all_goals (conv => whnf)
            exact ⟨(), _, rfl, trivial, wj⟩
          · rw [decide_eq_false c4] at n2
            refine awp_go ?_
            repeat' (conv => whnf
                     first
                     | (refine And.intro (by kernel_rfl) ?_)
                     | (refine And.intro ⟨by kernel_rfl, by kernel_rfl⟩ ?_)
                     | (refine cond_1 (lt_at hj) ?_)
                     | (refine ⟨_, f1, ?_⟩)
                     | (refine cond_0 d1 ?_)
                     | (refine cond_0 e1 ?_)
                     | (refine cond_0 e2 ?_)
                     | (refine ⟨s1, ?_⟩)
                     | (refine Or.inl ⟨_, n1, ?_⟩)
                     | (refine ⟨_, n1, ?_⟩)
                     | (refine Or.inl ⟨_, n2, ?_⟩)
                     | (refine ⟨_, n2, ?_⟩)
                     | (refine cond_f ?_ ?_)
                     | (refine ⟨_, ⟨by decide, rfl⟩, ?_⟩)
                     | (refine cond_i (fun h => ?_) (fun h => ?_)))
            all_goals (conv => whnf)
            exact ⟨(), _, rfl, trivial, wj⟩
    · have d1 : (l[j].kind != 3) = true := by simpa using c1
      refine awp_go ?_
      repeat' (conv => whnf
               first
               | (refine And.intro (by kernel_rfl) ?_)
               | (refine And.intro ⟨by kernel_rfl, by kernel_rfl⟩ ?_)
               | (refine cond_1 (lt_at hj) ?_)
               | (refine ⟨_, f1, ?_⟩)
               | (refine cond_1 d1 ?_)
               | (refine cond_f ?_ ?_)
               | (refine ⟨_, ⟨by decide, rfl⟩, ?_⟩)
               | (refine cond_i (fun h => ?_) (fun h => ?_)))
      all_goals (conv => whnf)
      exact ⟨(), _, rfl, trivial, wj⟩
  · have n3 := ref25_Has (belowL k l) k (by omega)
    rw [decide_eq_false (below_not k l)] at n3
    refine awp_go ?_
    repeat' (conv => whnf
             first
             | (refine And.intro (by kernel_rfl) ?_)
             | (refine And.intro ⟨by kernel_rfl, by kernel_rfl⟩ ?_)
             | (refine cond_0 lt_end ?_)
             | (refine Or.inl ⟨_, n3, ?_⟩)
             | (refine ⟨_, n3, ?_⟩)
             | (refine Or.inl ⟨_, aw, ?_⟩)
             | (refine ⟨_, aw, ?_⟩)
             | (refine cond_f ?_ ?_)
             | (refine ⟨_, ⟨by decide, rfl⟩, ?_⟩)
             | (refine cond_i (fun h => ?_) (fun h => ?_)))
    all_goals (conv => whnf)
    all_goals rfl
end Go.Proofs.YtcihkmnolagdlaaDoor.Cn
namespace Go.Proofs.YtcihkmnolagdlaaDoor.Cn
open Go Go.Proofs Go.Proofs.YtcihkmnolagdlaaDoor.Av Go.Proofs.YtcihkmnolagdlaaDoor.Sp
set_option linter.unusedVariables false
set_option linter.unusedSimpArgs false
set_option linter.unusedSectionVars false
set_option maxRecDepth 100000
attribute [local irreducible] Fv Fp

theorem ev_app {l : List Ev} (h : l.length ≤ 1000) : 0 + l.length ≤ (l.map Ev.g).length ∧ (0 < l.length + 1 ∨ l.map Ev.g = []) ∧ fitsB Tryd.prog 30 (l.length + 1) ∧
    ∀ r ∈ l.map Ev.g, r.length = Tryd.prog.cellsOf 30 := by
  refine ⟨by simp, .inl (by omega), fits 144 (by kernel_rfl) (by omega), ev_len⟩
theorem ev_snoc {l : List Ev} {a : Ev} : ((l.map Ev.g).drop 0).take l.length ++ [a.g] = (l ++ [a]).map Ev.g := by
  rw [List.drop_zero, List.map_append, List.take_of_length_le (by simp)]; rfl
def FilI (p : Ev → Bool) (l : List Ev) (j : Nat) (b : Nat × List (List G)) : Prop := b.1 = ((l.take j).filter p).length ∧ b.2 = ((l.take j).filter p).map Ev.g
theorem fil_take (p : Ev → Bool) {l : List Ev} {j : Nat} (hj : j < l.length) : (l.take (j + 1)).filter p = (l.take j).filter p ++ (if p l[j] then [l[j]] else []) := by
  rw [take_snoc hj, List.filter_append, List.filter_cons, List.filter_nil]
theorem fil_len (p : Ev → Bool) (l : List Ev) (j : Nat) : ((l.take j).filter p).length ≤ l.length := by
  have := List.length_filter_le p (l.take j); rw [List.length_take] at this; omega
set_option maxHeartbeats 8000000 in
theorem ref25_Of (l : List Ev) (k : Int) (hl : l.length ≤ 200) : Fv Tryd.prog 20 [.sl (l.map Ev.g), .int .i64 k] (.sl ((l.filter fun e => e.kind == k).map Ev.g)) := by
  refine Fv.of_awp Tryd.func20 rfl (by kernel_rfl) rfl (Nat.le_of_ble_eq_true rfl) ?_
  repeat' (conv => whnf
           first
           | (refine And.intro (by kernel_rfl) ?_)
           | (refine And.intro ⟨by kernel_rfl, by kernel_rfl⟩ ?_)
           | (refine cond_f ?_ ?_)
           | (refine ⟨_, ⟨by decide, rfl⟩, ?_⟩)
           | (refine cond_i (fun h => ?_) (fun h => ?_)))
  all_goals (conv => whnf)
  refine Has.own0 5 26 rfl rfl ?_
  refine Has.each [0, 1, 5, 6] [] l.length (FilI (fun e => e.kind == k) l) (fun b i => St.of 28 [(0, .sl (l.map Ev.g)), (1, .int .i64 k), (5, .own 26 0 b.1), (6, .int .i64 i)] [] [(26, b.2)]) ⟨(0, []), _, rfl, ⟨rfl, rfl⟩, rfl⟩ (fun j b hj hI => ?_) (fun b hI => ?_)
  · obtain ⟨n, R⟩ := b
    obtain ⟨hn, hR⟩ := hI
    simp only at hn hR
    subst hn; subst hR
    have f1 := row_at (R := Ev.g) hj
    have hlen := fil_len (fun e => e.kind == k) l j
    have hstep := fil_take (fun e => e.kind == k) hj
    have wj := up1 hj (show l.length < 4611686018427387904 by omega)
    generalize (l.take j).filter (fun e => e.kind == k) = out at *
    have a1 := ev_app (l := out) (by omega)
    cases hb : (l[j].kind == k) with
    | true =>
      rw [hb, if_pos rfl] at hstep
      refine awp_go ?_
      repeat' (conv => whnf
               first
               | (refine And.intro (by kernel_rfl) ?_)
               | (refine And.intro ⟨by kernel_rfl, by kernel_rfl⟩ ?_)
               | (refine cond_1 (lt_at hj) ?_)
               | (refine ⟨_, f1, ?_⟩)
               | (refine cond_1 hb ?_)
               | (refine ⟨a1, ?_⟩)
               | (refine cond_f ?_ ?_)
               | (refine ⟨_, ⟨by decide, rfl⟩, ?_⟩)
               | (refine cond_i (fun h => ?_) (fun h => ?_)))
      all_goals (conv => whnf)
      exact ⟨(_, _), _, rfl, ⟨by rw [hstep, List.length_append]; rfl, by rw [hstep]; exact ev_snoc⟩, wj⟩
    | false =>
      rw [hb] at hstep
      simp only [Bool.false_eq_true, if_false, List.append_nil] at hstep
      refine awp_go ?_
      repeat' (conv => whnf
               first
               | (refine And.intro (by kernel_rfl) ?_)
               | (refine And.intro ⟨by kernel_rfl, by kernel_rfl⟩ ?_)
               | (refine cond_1 (lt_at hj) ?_)
               | (refine ⟨_, f1, ?_⟩)
               | (refine cond_0 hb ?_)
               | (refine cond_f ?_ ?_)
               | (refine ⟨_, ⟨by decide, rfl⟩, ?_⟩)
               | (refine cond_i (fun h => ?_) (fun h => ?_)))
      all_goals (conv => whnf)
      exact ⟨(_, _), _, rfl, ⟨by rw [hstep], by rw [hstep]⟩, wj⟩
  · obtain ⟨n, R⟩ := b
    obtain ⟨hn, hR⟩ := hI
    simp only at hn hR
    subst hn; subst hR
    rw [List.take_length]
    have h5 := own_le1 (l := l.filter fun e => e.kind == k) (R := Ev.g)
    have h6 := own_all1 (l := l.filter fun e => e.kind == k) (R := Ev.g)
    refine awp_go ?_
    repeat' (conv => whnf
             first
             | (refine And.intro (by kernel_rfl) ?_)
             | (refine And.intro ⟨by kernel_rfl, by kernel_rfl⟩ ?_)
             | (refine cond_0 lt_end ?_)
             | (refine ⟨h5, ?_⟩)
             | (rw [h6])
             | (refine cond_f ?_ ?_)
             | (refine ⟨_, ⟨by decide, rfl⟩, ?_⟩)
             | (refine cond_i (fun h => ?_) (fun h => ?_)))
    all_goals (conv => whnf)
    all_goals rfl
theorem keyP_eq (k : Sp.Key) (e : Ev) : keyP k e = (decide (e.key = k) && e.kind != 9) := by
  unfold keyP bne; cases (e.kind == 9) <;> cases decide (e.key = k) <;> rfl
set_option maxHeartbeats 8000000 in
theorem ref25_Key (l : List Ev) (k : Sp.Key) (hl : l.length ≤ 200) : Fv Tryd.prog 21 [.sl (l.map Ev.g), .agg k.g] (.sl ((l.filter fun e => keyP k e).map Ev.g)) := by
  refine Fv.of_awp Tryd.func21 rfl (by kernel_rfl) rfl (Nat.le_of_ble_eq_true rfl) ?_
  repeat' (conv => whnf
           first
           | (refine And.intro (by kernel_rfl) ?_)
           | (refine And.intro ⟨by kernel_rfl, by kernel_rfl⟩ ?_)
           | (refine cond_f ?_ ?_)
           | (refine ⟨_, ⟨by decide, rfl⟩, ?_⟩)
           | (refine cond_i (fun h => ?_) (fun h => ?_)))
  all_goals (conv => whnf)
  refine Has.own0 5 34 rfl rfl ?_
  refine Has.each [0, 3, 5, 6] [] l.length (FilI (fun e => keyP k e) l) (fun b i => St.of 36 [(0, .sl (l.map Ev.g)), (3, .ptr 3 0), (5, .own 34 0 b.1), (6, .int .i64 i)] [(3, k.g)] [(34, b.2)]) ⟨(0, []), _, rfl, ⟨rfl, rfl⟩, rfl⟩ (fun j b hj hI => ?_) (fun b hI => ?_)
  · obtain ⟨n, R⟩ := b
    obtain ⟨hn, hR⟩ := hI
    simp only at hn hR
    subst hn; subst hR
    have f1 := row_at (R := Ev.g) hj
    have hlen := fil_len (fun e => keyP k e) l j
    have hstep := fil_take (fun e => keyP k e) hj
    have wj := up1 hj (show l.length < 4611686018427387904 by omega)
    generalize (l.take j).filter (fun e => keyP k e) = out at *
    have a1 := ev_app (l := out) (by omega)
    have e1 := key_eqB l[j].key k
    rw [keyP_eq] at hstep
    by_cases c1 : l[j].key = k
    · rw [decide_eq_true c1] at e1 hstep
      cases hb : (l[j].kind != 9) with
      | true =>
        rw [hb] at hstep
        simp only [Bool.and_self, if_true] at hstep
        refine awp_go ?_
        repeat' (conv => whnf
                 first
                 | (refine And.intro (by kernel_rfl) ?_)
                 | (refine And.intro ⟨by kernel_rfl, by kernel_rfl⟩ ?_)
                 | (refine cond_1 (lt_at hj) ?_)
                 | (refine ⟨_, f1, ?_⟩)
                 | (refine cond_1 e1 ?_)
                 | (refine cond_1 hb ?_)
                 | (refine ⟨a1, ?_⟩)
                 | (refine cond_f ?_ ?_)
                 | (refine ⟨_, ⟨by decide, rfl⟩, ?_⟩)
                 | (refine cond_i (fun h => ?_) (fun h => ?_)))
        all_goals (conv => whnf)
        exact ⟨(_, _), _, rfl, ⟨by rw [hstep, List.length_append]; rfl, by rw [hstep]; exact ev_snoc⟩, wj⟩
      | false =>
        rw [hb] at hstep
        simp only [Bool.and_false, Bool.false_eq_true, if_false, List.append_nil] at hstep
        refine awp_go ?_
        repeat' (conv => whnf
                 first
                 | (refine And.intro (by kernel_rfl) ?_)
                 | (refine And.intro ⟨by kernel_rfl, by kernel_rfl⟩ ?_)
                 | (refine cond_1 (lt_at hj) ?_)
                 | (refine ⟨_, f1, ?_⟩)
                 | (refine cond_1 e1 ?_)
                 | (refine cond_0 hb ?_)
                 | (refine cond_f ?_ ?_)
                 | (refine ⟨_, ⟨by decide, rfl⟩, ?_⟩)
                 | (refine cond_i (fun h => ?_) (fun h => ?_)))
        all_goals (conv => whnf)
        exact ⟨(_, _), _, rfl, ⟨by rw [hstep], by rw [hstep]⟩, wj⟩
    · rw [decide_eq_false c1] at e1 hstep
      simp only [Bool.false_and, Bool.false_eq_true, if_false, List.append_nil] at hstep
      refine awp_go ?_
      repeat' (conv => whnf
               first
               | (refine And.intro (by kernel_rfl) ?_)
               | (refine And.intro ⟨by kernel_rfl, by kernel_rfl⟩ ?_)
               | (refine cond_1 (lt_at hj) ?_)
               | (refine ⟨_, f1, ?_⟩)
               | (refine cond_0 e1 ?_)
               | (refine cond_f ?_ ?_)
               | (refine ⟨_, ⟨by decide, rfl⟩, ?_⟩)
               | (refine cond_i (fun h => ?_) (fun h => ?_)))
      all_goals (conv => whnf)
      exact ⟨(_, _), _, rfl, ⟨by rw [hstep], by rw [hstep]⟩, wj⟩
  · obtain ⟨n, R⟩ := b
    obtain ⟨hn, hR⟩ := hI
    simp only at hn hR
    subst hn; subst hR
    rw [List.take_length]
    have h5 := own_le1 (l := l.filter fun e => keyP k e) (R := Ev.g)
    have h6 := own_all1 (l := l.filter fun e => keyP k e) (R := Ev.g)
    refine awp_go ?_
    repeat' (conv => whnf
             first
             | (refine And.intro (by kernel_rfl) ?_)
             | (refine And.intro ⟨by kernel_rfl, by kernel_rfl⟩ ?_)
             | (refine cond_0 lt_end ?_)
             | (refine ⟨h5, ?_⟩)
             | (rw [h6])
             | (refine cond_f ?_ ?_)
             | (refine ⟨_, ⟨by decide, rfl⟩, ?_⟩)
             | (refine cond_i (fun h => ?_) (fun h => ?_)))
    all_goals (conv => whnf)
    all_goals rfl
set_option maxHeartbeats 4000000 in
theorem ref24_Same (l : List Sp.Key) (hl : l.length < 4611686018427387904) : Fv Tryd.prog 22 [.sl (l.map Key.g), .sl (l.map Key.g)] (.bool true) := by
  have b1 : (((l.map Key.g).length : Int) != ((l.map Key.g).length : Int)) = false := by simp
  refine Fv.of_awp Tryd.func22 rfl (by kernel_rfl) rfl (Nat.le_of_ble_eq_true rfl) ?_
  repeat' (conv => whnf
           first
           | (refine And.intro (by kernel_rfl) ?_)
           | (refine And.intro ⟨by kernel_rfl, by kernel_rfl⟩ ?_)
           | (refine cond_0 b1 ?_)
           | (refine cond_f ?_ ?_)
           | (refine ⟨_, ⟨by decide, rfl⟩, ?_⟩)
           | (refine cond_i (fun h => ?_) (fun h => ?_)))
  all_goals (conv => whnf)
  refine Has.each [0, 1, 5] [] l.length (fun _ (_ : Unit) => True) (fun _ i => St.of 26 [(0, .sl (l.map Key.g)), (1, .sl (l.map Key.g)), (5, .int .i64 i)] [] []) ⟨(), 0, rfl, trivial, rfl⟩ (fun k _ hk _ => ?_) (fun _ _ => ?_)
  · have f1 := row_at (R := Key.g) hk
    refine awp_go ?_
    repeat' (conv => whnf
             first
             | (refine And.intro (by kernel_rfl) ?_)
             | (refine And.intro ⟨by kernel_rfl, by kernel_rfl⟩ ?_)
             | (refine cond_1 (lt_at hk) ?_)
             | (refine ⟨_, f1, ?_⟩)
             | (refine cond_f ?_ ?_)
             | (refine ⟨_, ⟨by decide, rfl⟩, ?_⟩)
             | (refine cond_i (fun h => ?_) (fun h => ?_)))
    all_goals (conv => whnf)
    · simp at h
    · exact ⟨(), _, rfl, trivial, up1 hk hl⟩
  · refine awp_go ?_
    repeat' (conv => whnf
             first
             | (refine And.intro (by kernel_rfl) ?_)
             | (refine And.intro ⟨by kernel_rfl, by kernel_rfl⟩ ?_)
             | (refine cond_0 lt_end ?_)
             | (refine cond_f ?_ ?_)
             | (refine ⟨_, ⟨by decide, rfl⟩, ?_⟩)
             | (refine cond_i (fun h => ?_) (fun h => ?_)))
    all_goals (conv => whnf)
    all_goals rfl
def BelJ (k : Sp.Key) (l : List Ev) (j : Nat) (b : Nat × List (List G)) : Prop := b.1 = (belowL k (l.take j)).length ∧ b.2 = (belowL k (l.take j)).map Key.g
set_option maxHeartbeats 16000000 in
theorem ref25_Below (l : List Ev) (k : Sp.Key) (hl : l.length ≤ 200) : Fv Tryd.prog 23 [.sl (l.map Ev.g), .agg k.g] (.sl ((belowL k l).map Key.g)) := by
  refine Fv.of_awp Tryd.func23 rfl (by kernel_rfl) rfl (Nat.le_of_ble_eq_true rfl) ?_
  repeat' (conv => whnf
           first
           | (refine And.intro (by kernel_rfl) ?_)
           | (refine And.intro ⟨by kernel_rfl, by kernel_rfl⟩ ?_)
           | (refine cond_f ?_ ?_)
           | (refine ⟨_, ⟨by decide, rfl⟩, ?_⟩)
           | (refine cond_i (fun h => ?_) (fun h => ?_)))
  all_goals (conv => whnf)
  refine Has.own0 5 50 rfl rfl ?_
  refine Has.each [0, 3, 5, 6] [7] l.length (BelJ k l) (fun b i => St.of 52 [(0, .sl (l.map Ev.g)), (3, .ptr 3 0), (5, .own 50 0 b.1), (6, .int .i64 i)] [(3, k.g)] [(50, b.2)]) ⟨(0, []), _, rfl, ⟨rfl, rfl⟩, rfl⟩ (fun j b hj hI => ?_) (fun b hI => ?_)
  · obtain ⟨n, R⟩ := b
    obtain ⟨hn, hR⟩ := hI
    simp only at hn hR
    subst hn; subst hR
    have f1 := row_at (R := Ev.g) hj
    have hlen := belowL_len k (l.take j)
    rw [List.length_take] at hlen
    have hstep := belowL_take (k := k) hj
    have wj := up1 hj (show l.length < 4611686018427387904 by omega)
    generalize belowL k (l.take j) = out at *
    generalize l[j] = e at *
    have a1 := key_app (l := out) (by omega)
    have n1 := ref25_Has out e.parent (by omega)
    have n2 := ref25_Has out e.key (by omega)
    have e1 := key_eqB e.parent k
    have e2 := key_eqB e.key k
    have e2' : (!((e.key.id.node == k.id.node && (e.key.id.inc == k.id.inc && (e.key.id.seq == k.id.seq && true))) && (e.key.att == k.att && true))) = !(decide (e.key = k)) := by rw [e2]
    unfold belowStep at hstep
    by_cases c1 : e.kind = 3
    · have b1 : (e.kind == 3) = true := by simpa using c1
      by_cases c2 : e.parent ∈ k :: out
      · by_cases c3 : e.key = k
        · rw [if_neg (fun h => h.2.2 (by rw [c3]; simp))] at hstep
          rw [decide_eq_true c3] at e2 e2'
          simp only [Bool.not_true] at e2'
          by_cases c4 : e.parent = k
          · rw [decide_eq_true c4] at e1
            refine awp_go ?_
            repeat' (conv => whnf
                     first
                     | (refine And.intro (by kernel_rfl) ?_)
                     | (refine And.intro ⟨by kernel_rfl, by kernel_rfl⟩ ?_)
                     | (refine cond_1 (lt_at hj) ?_)
                     | (refine ⟨_, f1, ?_⟩)
                     | (refine cond_1 b1 ?_)
                     | (refine cond_1 e1 ?_)
                     | (refine cond_0 e2' ?_)
                     | (refine cond_f ?_ ?_)
                     | (refine ⟨_, ⟨by decide, rfl⟩, ?_⟩)
                     | (refine cond_i (fun h => ?_) (fun h => ?_)))
            all_goals (conv => whnf)
            exact ⟨(_, _), _, rfl, ⟨by rw [hstep], by rw [hstep]⟩, wj⟩
          · rw [decide_eq_false c4] at e1
            rw [decide_eq_true ((List.mem_cons.1 c2).resolve_left c4)] at n1
            refine awp_go ?_
            repeat' (conv => whnf
                     first
                     | (refine And.intro (by kernel_rfl) ?_)
                     | (refine And.intro ⟨by kernel_rfl, by kernel_rfl⟩ ?_)
                     | (refine cond_1 (lt_at hj) ?_)
                     | (refine ⟨_, f1, ?_⟩)
                     | (refine cond_1 b1 ?_)
                     | (refine cond_0 e1 ?_)
                     | (refine Or.inl ?_)
                     | (refine ⟨own_le1, ?_⟩)
                     | (rw [own_all1])
                     | (refine Or.inl ⟨_, n1, ?_⟩)
                     | (refine ⟨_, n1, ?_⟩)
                     | (refine cond_0 e2' ?_)
                     | (refine cond_f ?_ ?_)
                     | (refine ⟨_, ⟨by decide, rfl⟩, ?_⟩)
                     | (refine cond_i (fun h => ?_) (fun h => ?_)))
            all_goals (conv => whnf)
            exact ⟨(_, _), _, rfl, ⟨by rw [hstep], by rw [hstep]⟩, wj⟩
        · rw [decide_eq_false c3] at e2 e2'
          simp only [Bool.not_false] at e2'
          by_cases c5 : e.key ∈ out
          · rw [if_neg (fun h => h.2.2 (by simp [c5]))] at hstep
            rw [decide_eq_true c5] at n2
            by_cases c4 : e.parent = k
            · rw [decide_eq_true c4] at e1
              refine awp_go ?_
              repeat' (conv => whnf
                       first
                       | (refine And.intro (by kernel_rfl) ?_)
                       | (refine And.intro ⟨by kernel_rfl, by kernel_rfl⟩ ?_)
                       | (refine cond_1 (lt_at hj) ?_)
                       | (refine ⟨_, f1, ?_⟩)
                       | (refine cond_1 b1 ?_)
                       | (refine cond_1 e1 ?_)
                       | (refine cond_1 e2' ?_)
                       | (refine Or.inl ?_)
                       | (refine ⟨own_le1, ?_⟩)
                       | (rw [own_all1])
                       | (refine Or.inl ⟨_, n2, ?_⟩)
                       | (refine ⟨_, n2, ?_⟩)
                       | (refine cond_f ?_ ?_)
                       | (refine ⟨_, ⟨by decide, rfl⟩, ?_⟩)
                       | (refine cond_i (fun h => ?_) (fun h => ?_)))
              all_goals (conv => whnf)
              exact ⟨(_, _), _, rfl, ⟨by rw [hstep], by rw [hstep]⟩, wj⟩
            · rw [decide_eq_false c4] at e1
              rw [decide_eq_true ((List.mem_cons.1 c2).resolve_left c4)] at n1
              refine awp_go ?_
              repeat' (conv => whnf
                       first
                       | (refine And.intro (by kernel_rfl) ?_)
                       | (refine And.intro ⟨by kernel_rfl, by kernel_rfl⟩ ?_)
                       | (refine cond_1 (lt_at hj) ?_)
                       | (refine ⟨_, f1, ?_⟩)
                       | (refine cond_1 b1 ?_)
                       | (refine cond_0 e1 ?_)
                       | (refine Or.inl ?_)
                       | (refine ⟨own_le1, ?_⟩)
                       | (rw [own_all1])
                       | (refine Or.inl ⟨_, n1, ?_⟩)
                       | (refine ⟨_, n1, ?_⟩)
                       | (refine cond_1 e2' ?_)
                       | (refine Or.inl ⟨_, n2, ?_⟩)
                       | (refine ⟨_, n2, ?_⟩)
                       | (refine cond_f ?_ ?_)
                       | (refine ⟨_, ⟨by decide, rfl⟩, ?_⟩)
                       | (refine cond_i (fun h => ?_) (fun h => ?_)))
              all_goals (conv => whnf)
              exact ⟨(_, _), _, rfl, ⟨by rw [hstep], by rw [hstep]⟩, wj⟩
          · rw [if_pos ⟨c1, c2, fun h => (List.mem_cons.1 h).elim c3 c5⟩] at hstep
            rw [decide_eq_false c5] at n2
            by_cases c4 : e.parent = k
            · rw [decide_eq_true c4] at e1
              refine awp_go ?_
              repeat' (conv => whnf
                       first
                       | (refine And.intro (by kernel_rfl) ?_)
                       | (refine And.intro ⟨by kernel_rfl, by kernel_rfl⟩ ?_)
                       | (refine cond_1 (lt_at hj) ?_)
                       | (refine ⟨_, f1, ?_⟩)
                       | (refine cond_1 b1 ?_)
                       | (refine cond_1 e1 ?_)
                       | (refine cond_1 e2' ?_)
                       | (refine ⟨a1, ?_⟩)
                       | (refine Or.inl ?_)
                       | (refine ⟨own_le1, ?_⟩)
                       | (rw [own_all1])
                       | (refine Or.inl ⟨_, n2, ?_⟩)
                       | (refine ⟨_, n2, ?_⟩)
                       | (refine cond_f ?_ ?_)
                       | (refine ⟨_, ⟨by decide, rfl⟩, ?_⟩)
                       | (refine cond_i (fun h => ?_) (fun h => ?_)))
              all_goals (conv => whnf)
              exact ⟨(_, _), _, rfl, ⟨by rw [hstep, List.length_append]; rfl, by rw [hstep, List.map_append]; rfl⟩, wj⟩
            · rw [decide_eq_false c4] at e1
              rw [decide_eq_true ((List.mem_cons.1 c2).resolve_left c4)] at n1
              refine awp_go ?_
              repeat' (conv => whnf
                       first
                       | (refine And.intro (by kernel_rfl) ?_)
                       | (refine And.intro ⟨by kernel_rfl, by kernel_rfl⟩ ?_)
                       | (refine cond_1 (lt_at hj) ?_)
                       | (refine ⟨_, f1, ?_⟩)
                       | (refine cond_1 b1 ?_)
                       | (refine cond_0 e1 ?_)
                       | (refine ⟨a1, ?_⟩)
                       | (refine Or.inl ?_)
                       | (refine ⟨own_le1, ?_⟩)
                       | (rw [own_all1])
                       | (refine Or.inl ⟨_, n1, ?_⟩)
                       | (refine ⟨_, n1, ?_⟩)
                       | (refine cond_1 e2' ?_)
                       | (refine Or.inl ⟨_, n2, ?_⟩)
                       | (refine ⟨_, n2, ?_⟩)
                       | (refine cond_f ?_ ?_)
                       | (refine ⟨_, ⟨by decide, rfl⟩, ?_⟩)
                       | (refine cond_i (fun h => ?_) (fun h => ?_)))
              all_goals (conv => whnf)
              exact ⟨(_, _), _, rfl, ⟨by rw [hstep, List.length_append]; rfl, by rw [hstep, List.map_append]; rfl⟩, wj⟩
      · rw [if_neg (fun h => c2 h.2.1)] at hstep
        have c4 : ¬ e.parent = k := fun h => c2 (by rw [h]; simp)
        rw [decide_eq_false c4] at e1
        rw [decide_eq_false (fun h => c2 (by simp [h]))] at n1
        refine awp_go ?_
        repeat' (conv => whnf
                 first
                 | (refine And.intro (by kernel_rfl) ?_)
                 | (refine And.intro ⟨by kernel_rfl, by kernel_rfl⟩ ?_)
                 | (refine cond_1 (lt_at hj) ?_)
                 | (refine ⟨_, f1, ?_⟩)
                 | (refine cond_1 b1 ?_)
                 | (refine cond_0 e1 ?_)
                 | (refine Or.inl ?_)
                 | (refine ⟨own_le1, ?_⟩)
                 | (rw [own_all1])
                 | (refine Or.inl ⟨_, n1, ?_⟩)
                 | (refine ⟨_, n1, ?_⟩)
                 | (refine cond_f ?_ ?_)
                 | (refine ⟨_, ⟨by decide, rfl⟩, ?_⟩)
                 | (refine cond_i (fun h => ?_) (fun h => ?_)))
        all_goals (conv => whnf)
        exact ⟨(_, _), _, rfl, ⟨by rw [hstep], by rw [hstep]⟩, wj⟩
    · have b1 : (e.kind == 3) = false := by simpa using c1
      rw [if_neg (fun h => c1 h.1)] at hstep
      refine awp_go ?_
      repeat' (conv => whnf
               first
               | (refine And.intro (by kernel_rfl) ?_)
               | (refine And.intro ⟨by kernel_rfl, by kernel_rfl⟩ ?_)
               | (refine cond_1 (lt_at hj) ?_)
               | (refine ⟨_, f1, ?_⟩)
               | (refine cond_0 b1 ?_)
               | (refine cond_f ?_ ?_)
               | (refine ⟨_, ⟨by decide, rfl⟩, ?_⟩)
               | (refine cond_i (fun h => ?_) (fun h => ?_)))
      all_goals (conv => whnf)
      exact ⟨(_, _), _, rfl, ⟨by rw [hstep], by rw [hstep]⟩, wj⟩
  · obtain ⟨n, R⟩ := b
    obtain ⟨hn, hR⟩ := hI
    simp only at hn hR
    subst hn; subst hR
    rw [List.take_length]
    have h5 := own_le1 (l := belowL k l) (R := Key.g)
    have h6 := own_all1 (l := belowL k l) (R := Key.g)
    refine awp_go ?_
    repeat' (conv => whnf
             first
             | (refine And.intro (by kernel_rfl) ?_)
             | (refine And.intro ⟨by kernel_rfl, by kernel_rfl⟩ ?_)
             | (refine cond_0 lt_end ?_)
             | (refine ⟨h5, ?_⟩)
             | (rw [h6])
             | (refine cond_f ?_ ?_)
             | (refine ⟨_, ⟨by decide, rfl⟩, ?_⟩)
             | (refine cond_i (fun h => ?_) (fun h => ?_)))
    all_goals (conv => whnf)
    all_goals rfl
end Go.Proofs.YtcihkmnolagdlaaDoor.Cn
namespace Go.Proofs.YtcihkmnolagdlaaDoor.Cn
open Go Go.Proofs Go.Proofs.YtcihkmnolagdlaaDoor.Av Go.Proofs.YtcihkmnolagdlaaDoor.Sp
set_option linter.unusedVariables false
set_option linter.unusedSimpArgs false
set_option linter.unusedSectionVars false
set_option maxRecDepth 100000
attribute [local irreducible] Fv Fp

theorem dec_small {n : Nat} (h : n < 10) : Lib.decDigits n = [UInt8.ofNat (48 + n)] := by rw [Lib.decDigits]; rw [dif_pos h]
theorem dec_more {n : Nat} (h : ¬ n < 10) : Lib.decDigits n = Lib.decDigits (n / 10) ++ [UInt8.ofNat (48 + n % 10)] := by rw [Lib.decDigits]; rw [dif_neg h]
theorem dig_at {n : Nat} (h : n < 10) : (⟨#[48, 49, 50, 51, 52, 53, 54, 55, 56, 57]⟩ : ByteArray).extract n (n + 1) = strL [UInt8.ofNat (48 + n)] := by
  have : n = 0 ∨ n = 1 ∨ n = 2 ∨ n = 3 ∨ n = 4 ∨ n = 5 ∨ n = 6 ∨ n = 7 ∨ n = 8 ∨ n = 9 := by omega
  rcases this with rfl | rfl | rfl | rfl | rfl | rfl | rfl | rfl | rfl | rfl <;> exact ext_list (by decide +kernel)
theorem dec_len (n : Nat) : (Lib.decDigits n).length ≤ n + 1 := by
  induction n using Nat.strongRecOn with
  | _ n ih =>
    by_cases h : n < 10
    · rw [dec_small h]; simp
    · rw [dec_more h]
      have := ih (n / 10) (by omega)
      simp only [List.length_append, List.length_cons, List.length_nil]
      omega
theorem digits_small (n : Int) (h0 : 0 ≤ n) (h : n < 10) (d : ByteArray) (hd : (⟨#[48, 49, 50, 51, 52, 53, 54, 55, 56, 57]⟩ : ByteArray).extract n.toNat (IntKind.i64.wrap (n + 1)).toNat = d) : Fv Tryd.prog 37 [.int .i64 n] (.str d) := by
  have w1 : IntKind.i64.wrap (n + 1) = n + 1 := wrap_i64 (by omega)
  have b0 : decide (n < 0) = false := decide_eq_false (by omega)
  have b1 : decide (n < 10) = true := decide_eq_true h
  have f1 : 0 ≤ n ∧ n ≤ IntKind.i64.wrap (n + 1) ∧ IntKind.i64.wrap (n + 1) ≤ ((10 : Nat) : Int) := by rw [w1]; omega
  refine Fv.of_awp Tryd.func37 rfl (by kernel_rfl) rfl (Nat.le_of_ble_eq_true rfl) ?_
  repeat' (conv => whnf
           first
           | (refine And.intro (by kernel_rfl) ?_)
           | (refine And.intro ⟨by kernel_rfl, by kernel_rfl⟩ ?_)
           | (refine cond_0 b0 ?_)
           | (refine cond_1 b1 ?_)
           | (refine ⟨f1, ?_⟩)
           | (refine cond_f ?_ ?_)
           | (refine ⟨_, ⟨by decide, rfl⟩, ?_⟩)
           | (refine cond_i (fun h => ?_) (fun h => ?_)))
  all_goals (conv => whnf)
  all_goals rw [hd]
theorem digits_more (n q r : Int) (x d : ByteArray) (h00 : 0 ≤ n) (h : ¬ n < 10) (hq : IntKind.i64.wrap (n.tdiv 10) = q) (hr : n.tmod 10 = r) (h0 : 0 ≤ r ∧ r < 10) (hd : (⟨#[48, 49, 50, 51, 52, 53, 54, 55, 56, 57]⟩ : ByteArray).extract r.toNat (IntKind.i64.wrap (r + 1)).toNat = d)
    (n1 : Fv Tryd.prog 37 [.int .i64 q] (.str x)) (hz : ((x.size + d.size : Nat) : Int) ≤ 9223372036854775807) : Fv Tryd.prog 37 [.int .i64 n] (.str (x ++ d)) := by
  have w1 : IntKind.i64.wrap (r + 1) = r + 1 := wrap_i64 (by omega)
  have b0 : decide (n < 0) = false := decide_eq_false (by omega)
  have b1 : decide (n < 10) = false := decide_eq_false h
  have f1 : 0 ≤ r ∧ r ≤ IntKind.i64.wrap (r + 1) ∧ IntKind.i64.wrap (r + 1) ≤ ((10 : Nat) : Int) := by rw [w1]; omega
  subst hq hr hd
  refine Fv.of_awp Tryd.func37 rfl (by kernel_rfl) rfl (Nat.le_of_ble_eq_true rfl) ?_
  repeat' (conv => whnf
           first
           | (refine And.intro (by kernel_rfl) ?_)
           | (refine And.intro ⟨by kernel_rfl, by kernel_rfl⟩ ?_)
           | (refine cond_0 b0 ?_)
           | (refine cond_0 b1 ?_)
           | (refine Or.inl ⟨_, n1, ?_⟩)
           | (refine ⟨_, n1, ?_⟩)
           | (refine ⟨f1, ?_⟩)
           | (refine ⟨hz, ?_⟩)
           | (refine cond_f ?_ ?_)
           | (refine ⟨_, ⟨by decide, rfl⟩, ?_⟩)
           | (refine cond_i (fun h => ?_) (fun h => ?_)))
  all_goals (conv => whnf)
  all_goals rfl
theorem ref06_Nat (n : Nat) : n < 9223372036854775808 → Fv Tryd.prog 37 [.int .i64 (n : Int)] (.str (strL (Lib.decDigits n))) := by
  induction n using Nat.strongRecOn with
  | _ n ih =>
    intro hn
    have lit : ∀ r : Nat, r < 10 → (⟨#[48, 49, 50, 51, 52, 53, 54, 55, 56, 57]⟩ : ByteArray).extract ((r : Nat) : Int).toNat (IntKind.i64.wrap (((r : Nat) : Int) + 1)).toNat = strL [UInt8.ofNat (48 + r)] := fun r hr => by
      rw [wrap_i64 (by omega), show (((r : Nat) : Int) + 1).toNat = r + 1 from by omega, Int.toNat_natCast]; exact dig_at hr
    by_cases h : n < 10
    · rw [dec_small h]
      exact digits_small n (by omega) (by omega) _ (lit n h)
    · rw [dec_more h, ← strL_app]
      have hl := dec_len (n / 10)
      refine digits_more n ((n / 10 : Nat) : Int) ((n % 10 : Nat) : Int) _ _ (by omega) (by omega) ?_ ?_ ⟨by omega, by omega⟩ (lit (n % 10) (by omega)) (ih (n / 10) (by omega) (by omega)) (by rw [strL_size, strL_size]; simp only [List.length_cons, List.length_nil]; omega)
      · rw [Int.tdiv_eq_ediv_of_nonneg (by omega), wrap_i64 (by omega)]; rfl
      · rw [Int.tmod_eq_emod_of_nonneg (by omega)]; rfl
theorem digits_neg1 (n m : Int) (x : ByteArray) (h0 : n < 0) (h1 : n > -10) (hm : IntKind.i64.wrap (0 - n) = m) (hx : x.size ≤ 20) (n1 : Fv Tryd.prog 37 [.int .i64 m] (.str x)) : Fv Tryd.prog 37 [.int .i64 n] (.str (⟨#[45]⟩ ++ x)) := by
  have b0 : decide (n < 0) = true := decide_eq_true h0
  have b1 : decide (n > -10) = true := decide_eq_true h1
  have z0 : (⟨#[45]⟩ : ByteArray).size = 1 := rfl
  subst hm
  refine Fv.of_awp Tryd.func37 rfl (by kernel_rfl) rfl (Nat.le_of_ble_eq_true rfl) ?_
  repeat' (conv => whnf
           first
           | (refine And.intro (by kernel_rfl) ?_)
           | (refine And.intro ⟨by kernel_rfl, by kernel_rfl⟩ ?_)
           | (refine cond_1 b0 ?_)
           | (refine cond_1 b1 ?_)
           | (refine Or.inl ⟨_, n1, ?_⟩)
           | (refine ⟨_, n1, ?_⟩)
           | (refine sz_ok (by first | omega | (simp only [ByteArray.size_append]; omega)) ?_)
           | (refine cond_f ?_ ?_)
           | (refine ⟨_, ⟨by decide, rfl⟩, ?_⟩)
           | (refine cond_i (fun h => ?_) (fun h => ?_)))
  all_goals (conv => whnf)
  all_goals rfl
theorem digits_neg2 (n a b : Int) (x y : ByteArray) (h0 : n < 0) (h1 : ¬ n > -10) (ha : IntKind.i64.wrap (0 - IntKind.i64.wrap (n.tdiv 10)) = a) (hb : IntKind.i64.wrap (0 - n.tmod 10) = b) (hx : x.size ≤ 20) (hy : y.size ≤ 20)
    (n1 : Fv Tryd.prog 37 [.int .i64 a] (.str x)) (n2 : Fv Tryd.prog 37 [.int .i64 b] (.str y)) : Fv Tryd.prog 37 [.int .i64 n] (.str (⟨#[45]⟩ ++ x ++ y)) := by
  have b0 : decide (n < 0) = true := decide_eq_true h0
  have b1 : decide (n > -10) = false := decide_eq_false h1
  have z0 : (⟨#[45]⟩ : ByteArray).size = 1 := rfl
  subst ha hb
  refine Fv.of_awp Tryd.func37 rfl (by kernel_rfl) rfl (Nat.le_of_ble_eq_true rfl) ?_
  repeat' (conv => whnf
           first
           | (refine And.intro (by kernel_rfl) ?_)
           | (refine And.intro ⟨by kernel_rfl, by kernel_rfl⟩ ?_)
           | (refine cond_1 b0 ?_)
           | (refine cond_0 b1 ?_)
           | (refine Or.inl ⟨_, n1, ?_⟩)
           | (refine ⟨_, n1, ?_⟩)
           | (refine Or.inl ⟨_, n2, ?_⟩)
           | (refine ⟨_, n2, ?_⟩)
           | (refine sz_ok (by first | omega | (simp only [ByteArray.size_append]; omega)) ?_)
           | (refine cond_f ?_ ?_)
           | (refine ⟨_, ⟨by decide, rfl⟩, ?_⟩)
           | (refine cond_i (fun h => ?_) (fun h => ?_)))
  all_goals (conv => whnf)
  all_goals rfl
theorem ref06_Digits (n : Int) (h : i64 n) : Fv Tryd.prog 37 [.int .i64 n] (.str (itB n)) := by
  obtain ⟨h1, h2⟩ := h
  have dl : ∀ k : Nat, k < 9223372036854775809 → (strL (Lib.decDigits k)).size ≤ 20 := fun k hk => by rw [strL_size]; have := decs_le 18 k (by omega); omega
  by_cases h0 : n < 0
  · have e : itB n = strL (45 :: Lib.decDigits n.natAbs) := by unfold itB Lib.itoa; rw [if_pos h0]; rfl
    rw [e]
    by_cases h3 : n > -10
    · have := digits_neg1 n ((n.natAbs : Nat) : Int) _ h0 h3 (by rw [wrap_i64 (by omega)]; omega) (dl _ (by omega)) (ref06_Nat n.natAbs (by omega))
      exact this
    · have hq : n.tdiv 10 = -((n.natAbs / 10 : Nat) : Int) := by
        have : n = -((n.natAbs : Nat) : Int) := by omega
        rw [this, Int.neg_tdiv, Int.tdiv_eq_ediv_of_nonneg (by omega)]; omega
      have hr : n.tmod 10 = -((n.natAbs % 10 : Nat) : Int) := by
        have : n = -((n.natAbs : Nat) : Int) := by omega
        rw [this, Int.neg_tmod, Int.tmod_eq_emod_of_nonneg (by omega)]; omega
      have hw : IntKind.i64.wrap (-((n.natAbs / 10 : Nat) : Int)) = -((n.natAbs / 10 : Nat) : Int) := wrap_i64 (by omega)
      have := digits_neg2 n ((n.natAbs / 10 : Nat) : Int) ((n.natAbs % 10 : Nat) : Int) _ _ h0 h3 (by rw [hq, hw, wrap_i64 (by omega)]; omega) (by rw [hr, wrap_i64 (by omega)]; omega) (dl _ (by omega)) (dl _ (by omega)) (ref06_Nat (n.natAbs / 10) (by omega)) (ref06_Nat (n.natAbs % 10) (by omega))
      have e2 : strL (45 :: Lib.decDigits n.natAbs) = ⟨#[45]⟩ ++ strL (Lib.decDigits (n.natAbs / 10)) ++ strL (Lib.decDigits (n.natAbs % 10)) := by
        apply ext_list
        rw [app_list, app_list, dec_more (n := n.natAbs) (by omega), dec_small (n := n.natAbs % 10) (by omega)]
        rfl
      rw [e2]; exact this
  · have e : itB n = strL (Lib.decDigits n.toNat) := by unfold itB Lib.itoa; rw [if_neg h0]; rfl
    rw [e]
    have := ref06_Nat n.toNat (by omega)
    rwa [show ((n.toNat : Nat) : Int) = n from by omega] at this
theorem id_text7 (a b c : ByteArray) (d : Sp.Id) (ha : a.size ≤ 20) (hb : b.size ≤ 20) (hc : c.size ≤ 20) (n1 : Fv Tryd.prog 37 [.int .i64 d.node] (.str a)) (n2 : Fv Tryd.prog 37 [.int .i64 d.inc] (.str b)) (n3 : Fv Tryd.prog 37 [.int .i64 d.seq] (.str c)) :
    Fv Tryd.prog 61 [.agg d.g] (.str (a ++ ⟨#[46]⟩ ++ b ++ ⟨#[46]⟩ ++ c)) := by
  have z0 : (⟨#[46]⟩ : ByteArray).size = 1 := rfl
  refine Fv.of_awp Tryd.func61 rfl (by kernel_rfl) rfl (Nat.le_of_ble_eq_true rfl) ?_
  repeat' (conv => whnf
           first
           | (refine And.intro (by kernel_rfl) ?_)
           | (refine And.intro ⟨by kernel_rfl, by kernel_rfl⟩ ?_)
           | (refine Or.inl ⟨_, n1, ?_⟩)
           | (refine ⟨_, n1, ?_⟩)
           | (refine Or.inl ⟨_, n2, ?_⟩)
           | (refine ⟨_, n2, ?_⟩)
           | (refine Or.inl ⟨_, n3, ?_⟩)
           | (refine ⟨_, n3, ?_⟩)
           | (refine sz_ok (by first | omega | (simp only [ByteArray.size_append]; omega)) ?_)
           | (refine cond_f ?_ ?_)
           | (refine ⟨_, ⟨by decide, rfl⟩, ?_⟩)
           | (refine cond_i (fun h => ?_) (fun h => ?_)))
  all_goals (conv => whnf)
  all_goals rfl
theorem ref07_Text (d : Sp.Id) (h : okId d) : Fv Tryd.prog 61 [.agg d.g] (.str (idB d)) := by
  unfold idB
  exact id_text7 (itB d.node) (itB d.inc) (itB d.seq) d (itB_size h.1) (itB_size h.2.1) (itB_size h.2.2) (ref06_Digits _ h.1) (ref06_Digits _ h.2.1) (ref06_Digits _ h.2.2)
theorem key_text7 (a b : ByteArray) (k : Sp.Key) (ha : a.size ≤ 62) (hb : b.size ≤ 20) (n1 : Fv Tryd.prog 61 [.agg k.id.g] (.str a)) (n2 : Fv Tryd.prog 37 [.int .i64 k.att] (.str b)) :
    Fv Tryd.prog 60 [.agg k.g] (.str (a ++ ⟨#[47]⟩ ++ b)) := by
  have z0 : (⟨#[47]⟩ : ByteArray).size = 1 := rfl
  refine Fv.of_awp Tryd.func60 rfl (by kernel_rfl) rfl (Nat.le_of_ble_eq_true rfl) ?_
  repeat' (conv => whnf
           first
           | (refine And.intro (by kernel_rfl) ?_)
           | (refine And.intro ⟨by kernel_rfl, by kernel_rfl⟩ ?_)
           | (refine Or.inl ⟨_, n1, ?_⟩)
           | (refine ⟨_, n1, ?_⟩)
           | (refine Or.inl ⟨_, n2, ?_⟩)
           | (refine ⟨_, n2, ?_⟩)
           | (refine sz_ok (by first | omega | (simp only [ByteArray.size_append]; omega)) ?_)
           | (refine cond_f ?_ ?_)
           | (refine ⟨_, ⟨by decide, rfl⟩, ?_⟩)
           | (refine cond_i (fun h => ?_) (fun h => ?_)))
  all_goals (conv => whnf)
  all_goals rfl
theorem ref07_KeyText (k : Sp.Key) (h : okKey k) : Fv Tryd.prog 60 [.agg k.g] (.str (keyB k)) := by
  unfold keyB
  exact key_text7 (idB k.id) (itB k.att) k (idB_size h.1) (itB_size h.2) (ref07_Text _ h.1) (ref06_Digits _ h.2)
end Go.Proofs.YtcihkmnolagdlaaDoor.Cn
namespace Go.Proofs.YtcihkmnolagdlaaDoor.Cn
open Go Go.Proofs Go.Proofs.YtcihkmnolagdlaaDoor.Av Go.Proofs.YtcihkmnolagdlaaDoor.Sp
set_option linter.unusedVariables false
set_option linter.unusedSimpArgs false
set_option linter.unusedSectionVars false
set_option maxRecDepth 100000
attribute [local irreducible] Fv Fp

def Nm5 (k : Int) (s : ByteArray) : Prop := Fv Tryd.prog 18 [.int .i64 k] (.str s)
theorem evN_at1 {k : Nat} (h : k < 11) : (evNames.drop 1)[k]? = some [.str (evN (k + 1))] := by
  rw [List.getElem?_drop, Nat.add_comm]; exact evN_at (by omega)
theorem name5_at (k : Int) (s : ByteArray) (h1 : 1 ≤ k ∧ k ≤ 11) (f1 : 0 ≤ IntKind.i64.wrap (k - 1) ∧ (evNames.drop 1)[(IntKind.i64.wrap (k - 1)).toNat]? = some [.str s]) : Nm5 k s := by
  have b1 : decide (k < 1) = false := decide_eq_false (by omega)
  have b2 : decide (k > 11) = false := decide_eq_false (by omega)
  unfold Nm5
  refine Fv.of_awp Tryd.func18 rfl (by kernel_rfl) rfl (Nat.le_of_ble_eq_true rfl) ?_
  repeat' (conv => whnf
           first
           | (refine And.intro (by kernel_rfl) ?_)
           | (refine And.intro ⟨by kernel_rfl, by kernel_rfl⟩ ?_)
           | (refine cond_0 b1 ?_)
           | (refine cond_0 b2 ?_)
           | (refine ⟨_, f1, ?_⟩)
           | (refine cond_f ?_ ?_)
           | (refine ⟨_, ⟨by decide, rfl⟩, ?_⟩)
           | (refine cond_i (fun h => ?_) (fun h => ?_)))
  all_goals (conv => whnf)
  all_goals rfl
theorem name5_out (k : Int) (h1 : ¬ (1 ≤ k ∧ k ≤ 11)) : Nm5 k ⟨#[63]⟩ := by
  unfold Nm5
  by_cases h2 : k < 1
  · have b1 : decide (k < 1) = true := decide_eq_true h2
    refine Fv.of_awp Tryd.func18 rfl (by kernel_rfl) rfl (Nat.le_of_ble_eq_true rfl) ?_
    repeat' (conv => whnf
             first
             | (refine And.intro (by kernel_rfl) ?_)
             | (refine And.intro ⟨by kernel_rfl, by kernel_rfl⟩ ?_)
             | (refine cond_1 b1 ?_)
             | (refine cond_f ?_ ?_)
             | (refine ⟨_, ⟨by decide, rfl⟩, ?_⟩)
             | (refine cond_i (fun h => ?_) (fun h => ?_)))
    all_goals (conv => whnf)
    all_goals rfl
  · have b1 : decide (k < 1) = false := decide_eq_false h2
    have b2 : decide (k > 11) = true := decide_eq_true (by omega)
    refine Fv.of_awp Tryd.func18 rfl (by kernel_rfl) rfl (Nat.le_of_ble_eq_true rfl) ?_
    repeat' (conv => whnf
             first
             | (refine And.intro (by kernel_rfl) ?_)
             | (refine And.intro ⟨by kernel_rfl, by kernel_rfl⟩ ?_)
             | (refine cond_0 b1 ?_)
             | (refine cond_1 b2 ?_)
             | (refine cond_f ?_ ?_)
             | (refine ⟨_, ⟨by decide, rfl⟩, ?_⟩)
             | (refine cond_i (fun h => ?_) (fun h => ?_)))
    all_goals (conv => whnf)
    all_goals rfl
theorem ref25_Name (k : Int) : Nm5 k (nameB k) := by
  unfold nameB
  by_cases h : 1 ≤ k ∧ k ≤ 11
  · rw [if_pos h]
    have hw : IntKind.i64.wrap (k - 1) = k - 1 := wrap_i64 (by omega)
    refine name5_at k _ h ⟨by rw [hw]; omega, ?_⟩
    have := evN_at1 (k := (k - 1).toNat) (by omega)
    rw [hw, this, show (k - 1).toNat + 1 = k.toNat from by omega]
  · rw [if_neg h]; exact name5_out k h
def Dg (k : Int) (s : ByteArray) : Prop := Fv Tryd.prog 37 [.int .i64 k] (.str s) ∧ s.size ≤ 20
def Kt5 (k : Sp.Key) (s : ByteArray) : Prop := Fv Tryd.prog 60 [.agg k.g] (.str s) ∧ s.size ≤ 83
def Id5 (k : Sp.Id) (s : ByteArray) : Prop := Fv Tryd.prog 61 [.agg k.g] (.str s) ∧ s.size ≤ 62
set_option maxHeartbeats 4000000 in
theorem line5_9 (real node loc hop code value : Int) (key parent : Sp.Key) (root : Sp.Id) (r s nd lc kt  : ByteArray) (n1 : Dg real r) (n2 : Nm5 9 s) (n3 : Dg node nd) (n4 : Dg loc lc) (n5 : Kt5 key kt) (hs : s.size ≤ 9)  :
    Fv Tryd.prog 47 [.agg (⟨9, real, node, loc, key, parent, root, hop, code, value⟩ : Ev).g] (.str (r ++ ⟨#[32]⟩ ++ s ++ ⟨#[32, 97, 116, 32]⟩ ++ nd ++ ⟨#[32]⟩ ++ lc)) := by
  have z0 : (⟨#[32]⟩ : ByteArray).size = 1 := rfl
  have z1 : (⟨#[32, 97, 116, 32]⟩ : ByteArray).size = 4 := rfl
  have z2 : (⟨#[32, 98, 121, 32]⟩ : ByteArray).size = 4 := rfl
  have z3 : (⟨#[32, 117, 110, 100, 101, 114, 32]⟩ : ByteArray).size = 7 := rfl
  have z4 : (⟨#[32, 104, 111, 112, 32]⟩ : ByteArray).size = 5 := rfl
  have z5 : (⟨#[32, 99, 111, 100, 101, 32]⟩ : ByteArray).size = 6 := rfl
  have z6 : (⟨#[32, 118, 97, 108, 117, 101, 32]⟩ : ByteArray).size = 7 := rfl
  unfold Dg Nm5 Kt5 at *
  try unfold Id5 at *
  obtain ⟨n1, y1⟩ := n1
  obtain ⟨n3, y3⟩ := n3
  obtain ⟨n4, y4⟩ := n4
  obtain ⟨n5, y5⟩ := n5
  refine Fv.of_awp Tryd.func47 rfl (by kernel_rfl) rfl (Nat.le_of_ble_eq_true rfl) ?_
  repeat' (conv => whnf
           first
           | (refine And.intro (by kernel_rfl) ?_)
           | (refine And.intro ⟨by kernel_rfl, by kernel_rfl⟩ ?_)
           | (refine Or.inl ⟨_, n1, ?_⟩)
           | (refine ⟨_, n1, ?_⟩)
           | (refine Or.inl ⟨_, n2, ?_⟩)
           | (refine ⟨_, n2, ?_⟩)
           | (refine Or.inl ⟨_, n3, ?_⟩)
           | (refine ⟨_, n3, ?_⟩)
           | (refine Or.inl ⟨_, n4, ?_⟩)
           | (refine ⟨_, n4, ?_⟩)
           | (refine Or.inl ⟨_, n5, ?_⟩)
           | (refine ⟨_, n5, ?_⟩)
           | (refine sz_ok (by first | omega | (simp only [ByteArray.size_append]; omega)) ?_)
           | (refine cond_f ?_ ?_)
           | (refine ⟨_, ⟨by decide, rfl⟩, ?_⟩)
           | (refine cond_i (fun h => ?_) (fun h => ?_)))
  all_goals (conv => whnf)
  all_goals rfl
set_option maxHeartbeats 4000000 in
theorem line5_2 (real node loc hop code value : Int) (key parent : Sp.Key) (root : Sp.Id) (r s nd lc kt pt rt ht : ByteArray) (n1 : Dg real r) (n2 : Nm5 2 s) (n3 : Dg node nd) (n4 : Dg loc lc) (n5 : Kt5 key kt) (hs : s.size ≤ 9) (m1 : Kt5 parent pt) (m2 : Id5 root rt) (m3 : Dg hop ht) :
    Fv Tryd.prog 47 [.agg (⟨2, real, node, loc, key, parent, root, hop, code, value⟩ : Ev).g] (.str (r ++ ⟨#[32]⟩ ++ s ++ ⟨#[32, 97, 116, 32]⟩ ++ nd ++ ⟨#[32]⟩ ++ lc ++ ⟨#[32]⟩ ++ kt ++ ⟨#[32, 98, 121, 32]⟩ ++ pt ++ ⟨#[32, 117, 110, 100, 101, 114, 32]⟩ ++ rt ++ ⟨#[32, 104, 111, 112, 32]⟩ ++ ht)) := by
  have z0 : (⟨#[32]⟩ : ByteArray).size = 1 := rfl
  have z1 : (⟨#[32, 97, 116, 32]⟩ : ByteArray).size = 4 := rfl
  have z2 : (⟨#[32, 98, 121, 32]⟩ : ByteArray).size = 4 := rfl
  have z3 : (⟨#[32, 117, 110, 100, 101, 114, 32]⟩ : ByteArray).size = 7 := rfl
  have z4 : (⟨#[32, 104, 111, 112, 32]⟩ : ByteArray).size = 5 := rfl
  have z5 : (⟨#[32, 99, 111, 100, 101, 32]⟩ : ByteArray).size = 6 := rfl
  have z6 : (⟨#[32, 118, 97, 108, 117, 101, 32]⟩ : ByteArray).size = 7 := rfl
  unfold Dg Nm5 Kt5 at *
  try unfold Id5 at *
  obtain ⟨n1, y1⟩ := n1
  obtain ⟨n3, y3⟩ := n3
  obtain ⟨n4, y4⟩ := n4
  obtain ⟨n5, y5⟩ := n5
  obtain ⟨m1, ym1⟩ := m1
  obtain ⟨m2, ym2⟩ := m2
  obtain ⟨m3, ym3⟩ := m3
  refine Fv.of_awp Tryd.func47 rfl (by kernel_rfl) rfl (Nat.le_of_ble_eq_true rfl) ?_
  repeat' (conv => whnf
           first
           | (refine And.intro (by kernel_rfl) ?_)
           | (refine And.intro ⟨by kernel_rfl, by kernel_rfl⟩ ?_)
           | (refine Or.inl ⟨_, n1, ?_⟩)
           | (refine ⟨_, n1, ?_⟩)
           | (refine Or.inl ⟨_, n2, ?_⟩)
           | (refine ⟨_, n2, ?_⟩)
           | (refine Or.inl ⟨_, n3, ?_⟩)
           | (refine ⟨_, n3, ?_⟩)
           | (refine Or.inl ⟨_, n4, ?_⟩)
           | (refine ⟨_, n4, ?_⟩)
           | (refine Or.inl ⟨_, n5, ?_⟩)
           | (refine ⟨_, n5, ?_⟩)
           | (refine Or.inl ⟨_, m1, ?_⟩)
           | (refine ⟨_, m1, ?_⟩)
           | (refine Or.inl ⟨_, m2, ?_⟩)
           | (refine ⟨_, m2, ?_⟩)
           | (refine Or.inl ⟨_, m3, ?_⟩)
           | (refine ⟨_, m3, ?_⟩)
           | (refine sz_ok (by first | omega | (simp only [ByteArray.size_append]; omega)) ?_)
           | (refine cond_f ?_ ?_)
           | (refine ⟨_, ⟨by decide, rfl⟩, ?_⟩)
           | (refine cond_i (fun h => ?_) (fun h => ?_)))
  all_goals (conv => whnf)
  all_goals rfl
set_option maxHeartbeats 4000000 in
theorem line5_3 (real node loc hop code value : Int) (key parent : Sp.Key) (root : Sp.Id) (r s nd lc kt pt rt ht : ByteArray) (n1 : Dg real r) (n2 : Nm5 3 s) (n3 : Dg node nd) (n4 : Dg loc lc) (n5 : Kt5 key kt) (hs : s.size ≤ 9) (m1 : Kt5 parent pt) (m2 : Id5 root rt) (m3 : Dg hop ht) :
    Fv Tryd.prog 47 [.agg (⟨3, real, node, loc, key, parent, root, hop, code, value⟩ : Ev).g] (.str (r ++ ⟨#[32]⟩ ++ s ++ ⟨#[32, 97, 116, 32]⟩ ++ nd ++ ⟨#[32]⟩ ++ lc ++ ⟨#[32]⟩ ++ kt ++ ⟨#[32, 98, 121, 32]⟩ ++ pt ++ ⟨#[32, 117, 110, 100, 101, 114, 32]⟩ ++ rt ++ ⟨#[32, 104, 111, 112, 32]⟩ ++ ht)) := by
  have z0 : (⟨#[32]⟩ : ByteArray).size = 1 := rfl
  have z1 : (⟨#[32, 97, 116, 32]⟩ : ByteArray).size = 4 := rfl
  have z2 : (⟨#[32, 98, 121, 32]⟩ : ByteArray).size = 4 := rfl
  have z3 : (⟨#[32, 117, 110, 100, 101, 114, 32]⟩ : ByteArray).size = 7 := rfl
  have z4 : (⟨#[32, 104, 111, 112, 32]⟩ : ByteArray).size = 5 := rfl
  have z5 : (⟨#[32, 99, 111, 100, 101, 32]⟩ : ByteArray).size = 6 := rfl
  have z6 : (⟨#[32, 118, 97, 108, 117, 101, 32]⟩ : ByteArray).size = 7 := rfl
  unfold Dg Nm5 Kt5 at *
  try unfold Id5 at *
  obtain ⟨n1, y1⟩ := n1
  obtain ⟨n3, y3⟩ := n3
  obtain ⟨n4, y4⟩ := n4
  obtain ⟨n5, y5⟩ := n5
  obtain ⟨m1, ym1⟩ := m1
  obtain ⟨m2, ym2⟩ := m2
  obtain ⟨m3, ym3⟩ := m3
  refine Fv.of_awp Tryd.func47 rfl (by kernel_rfl) rfl (Nat.le_of_ble_eq_true rfl) ?_
  repeat' (conv => whnf
           first
           | (refine And.intro (by kernel_rfl) ?_)
           | (refine And.intro ⟨by kernel_rfl, by kernel_rfl⟩ ?_)
           | (refine Or.inl ⟨_, n1, ?_⟩)
           | (refine ⟨_, n1, ?_⟩)
           | (refine Or.inl ⟨_, n2, ?_⟩)
           | (refine ⟨_, n2, ?_⟩)
           | (refine Or.inl ⟨_, n3, ?_⟩)
           | (refine ⟨_, n3, ?_⟩)
           | (refine Or.inl ⟨_, n4, ?_⟩)
           | (refine ⟨_, n4, ?_⟩)
           | (refine Or.inl ⟨_, n5, ?_⟩)
           | (refine ⟨_, n5, ?_⟩)
           | (refine Or.inl ⟨_, m1, ?_⟩)
           | (refine ⟨_, m1, ?_⟩)
           | (refine Or.inl ⟨_, m2, ?_⟩)
           | (refine ⟨_, m2, ?_⟩)
           | (refine Or.inl ⟨_, m3, ?_⟩)
           | (refine ⟨_, m3, ?_⟩)
           | (refine sz_ok (by first | omega | (simp only [ByteArray.size_append]; omega)) ?_)
           | (refine cond_f ?_ ?_)
           | (refine ⟨_, ⟨by decide, rfl⟩, ?_⟩)
           | (refine cond_i (fun h => ?_) (fun h => ?_)))
  all_goals (conv => whnf)
  all_goals rfl
set_option maxHeartbeats 4000000 in
theorem line5_5 (real node loc hop code value : Int) (key parent : Sp.Key) (root : Sp.Id) (r s nd lc kt ct vt : ByteArray) (n1 : Dg real r) (n2 : Nm5 5 s) (n3 : Dg node nd) (n4 : Dg loc lc) (n5 : Kt5 key kt) (hs : s.size ≤ 9) (m1 : Dg code ct) (m2 : Dg value vt) :
    Fv Tryd.prog 47 [.agg (⟨5, real, node, loc, key, parent, root, hop, code, value⟩ : Ev).g] (.str (r ++ ⟨#[32]⟩ ++ s ++ ⟨#[32, 97, 116, 32]⟩ ++ nd ++ ⟨#[32]⟩ ++ lc ++ ⟨#[32]⟩ ++ kt ++ ⟨#[32, 99, 111, 100, 101, 32]⟩ ++ ct ++ ⟨#[32, 118, 97, 108, 117, 101, 32]⟩ ++ vt)) := by
  have z0 : (⟨#[32]⟩ : ByteArray).size = 1 := rfl
  have z1 : (⟨#[32, 97, 116, 32]⟩ : ByteArray).size = 4 := rfl
  have z2 : (⟨#[32, 98, 121, 32]⟩ : ByteArray).size = 4 := rfl
  have z3 : (⟨#[32, 117, 110, 100, 101, 114, 32]⟩ : ByteArray).size = 7 := rfl
  have z4 : (⟨#[32, 104, 111, 112, 32]⟩ : ByteArray).size = 5 := rfl
  have z5 : (⟨#[32, 99, 111, 100, 101, 32]⟩ : ByteArray).size = 6 := rfl
  have z6 : (⟨#[32, 118, 97, 108, 117, 101, 32]⟩ : ByteArray).size = 7 := rfl
  unfold Dg Nm5 Kt5 at *
  try unfold Id5 at *
  obtain ⟨n1, y1⟩ := n1
  obtain ⟨n3, y3⟩ := n3
  obtain ⟨n4, y4⟩ := n4
  obtain ⟨n5, y5⟩ := n5
  obtain ⟨m1, ym1⟩ := m1
  obtain ⟨m2, ym2⟩ := m2
  refine Fv.of_awp Tryd.func47 rfl (by kernel_rfl) rfl (Nat.le_of_ble_eq_true rfl) ?_
  repeat' (conv => whnf
           first
           | (refine And.intro (by kernel_rfl) ?_)
           | (refine And.intro ⟨by kernel_rfl, by kernel_rfl⟩ ?_)
           | (refine Or.inl ⟨_, n1, ?_⟩)
           | (refine ⟨_, n1, ?_⟩)
           | (refine Or.inl ⟨_, n2, ?_⟩)
           | (refine ⟨_, n2, ?_⟩)
           | (refine Or.inl ⟨_, n3, ?_⟩)
           | (refine ⟨_, n3, ?_⟩)
           | (refine Or.inl ⟨_, n4, ?_⟩)
           | (refine ⟨_, n4, ?_⟩)
           | (refine Or.inl ⟨_, n5, ?_⟩)
           | (refine ⟨_, n5, ?_⟩)
           | (refine Or.inl ⟨_, m1, ?_⟩)
           | (refine ⟨_, m1, ?_⟩)
           | (refine Or.inl ⟨_, m2, ?_⟩)
           | (refine ⟨_, m2, ?_⟩)
           | (refine sz_ok (by first | omega | (simp only [ByteArray.size_append]; omega)) ?_)
           | (refine cond_f ?_ ?_)
           | (refine ⟨_, ⟨by decide, rfl⟩, ?_⟩)
           | (refine cond_i (fun h => ?_) (fun h => ?_)))
  all_goals (conv => whnf)
  all_goals rfl
set_option maxHeartbeats 4000000 in
theorem line5_6 (real node loc hop code value : Int) (key parent : Sp.Key) (root : Sp.Id) (r s nd lc kt ct vt : ByteArray) (n1 : Dg real r) (n2 : Nm5 6 s) (n3 : Dg node nd) (n4 : Dg loc lc) (n5 : Kt5 key kt) (hs : s.size ≤ 9) (m1 : Dg code ct) (m2 : Dg value vt) :
    Fv Tryd.prog 47 [.agg (⟨6, real, node, loc, key, parent, root, hop, code, value⟩ : Ev).g] (.str (r ++ ⟨#[32]⟩ ++ s ++ ⟨#[32, 97, 116, 32]⟩ ++ nd ++ ⟨#[32]⟩ ++ lc ++ ⟨#[32]⟩ ++ kt ++ ⟨#[32, 99, 111, 100, 101, 32]⟩ ++ ct ++ ⟨#[32, 118, 97, 108, 117, 101, 32]⟩ ++ vt)) := by
  have z0 : (⟨#[32]⟩ : ByteArray).size = 1 := rfl
  have z1 : (⟨#[32, 97, 116, 32]⟩ : ByteArray).size = 4 := rfl
  have z2 : (⟨#[32, 98, 121, 32]⟩ : ByteArray).size = 4 := rfl
  have z3 : (⟨#[32, 117, 110, 100, 101, 114, 32]⟩ : ByteArray).size = 7 := rfl
  have z4 : (⟨#[32, 104, 111, 112, 32]⟩ : ByteArray).size = 5 := rfl
  have z5 : (⟨#[32, 99, 111, 100, 101, 32]⟩ : ByteArray).size = 6 := rfl
  have z6 : (⟨#[32, 118, 97, 108, 117, 101, 32]⟩ : ByteArray).size = 7 := rfl
  unfold Dg Nm5 Kt5 at *
  try unfold Id5 at *
  obtain ⟨n1, y1⟩ := n1
  obtain ⟨n3, y3⟩ := n3
  obtain ⟨n4, y4⟩ := n4
  obtain ⟨n5, y5⟩ := n5
  obtain ⟨m1, ym1⟩ := m1
  obtain ⟨m2, ym2⟩ := m2
  refine Fv.of_awp Tryd.func47 rfl (by kernel_rfl) rfl (Nat.le_of_ble_eq_true rfl) ?_
  repeat' (conv => whnf
           first
           | (refine And.intro (by kernel_rfl) ?_)
           | (refine And.intro ⟨by kernel_rfl, by kernel_rfl⟩ ?_)
           | (refine Or.inl ⟨_, n1, ?_⟩)
           | (refine ⟨_, n1, ?_⟩)
           | (refine Or.inl ⟨_, n2, ?_⟩)
           | (refine ⟨_, n2, ?_⟩)
           | (refine Or.inl ⟨_, n3, ?_⟩)
           | (refine ⟨_, n3, ?_⟩)
           | (refine Or.inl ⟨_, n4, ?_⟩)
           | (refine ⟨_, n4, ?_⟩)
           | (refine Or.inl ⟨_, n5, ?_⟩)
           | (refine ⟨_, n5, ?_⟩)
           | (refine Or.inl ⟨_, m1, ?_⟩)
           | (refine ⟨_, m1, ?_⟩)
           | (refine Or.inl ⟨_, m2, ?_⟩)
           | (refine ⟨_, m2, ?_⟩)
           | (refine sz_ok (by first | omega | (simp only [ByteArray.size_append]; omega)) ?_)
           | (refine cond_f ?_ ?_)
           | (refine ⟨_, ⟨by decide, rfl⟩, ?_⟩)
           | (refine cond_i (fun h => ?_) (fun h => ?_)))
  all_goals (conv => whnf)
  all_goals rfl
set_option maxHeartbeats 4000000 in
theorem line5_7 (real node loc hop code value : Int) (key parent : Sp.Key) (root : Sp.Id) (r s nd lc kt ct vt : ByteArray) (n1 : Dg real r) (n2 : Nm5 7 s) (n3 : Dg node nd) (n4 : Dg loc lc) (n5 : Kt5 key kt) (hs : s.size ≤ 9) (m1 : Dg code ct) (m2 : Dg value vt) :
    Fv Tryd.prog 47 [.agg (⟨7, real, node, loc, key, parent, root, hop, code, value⟩ : Ev).g] (.str (r ++ ⟨#[32]⟩ ++ s ++ ⟨#[32, 97, 116, 32]⟩ ++ nd ++ ⟨#[32]⟩ ++ lc ++ ⟨#[32]⟩ ++ kt ++ ⟨#[32, 99, 111, 100, 101, 32]⟩ ++ ct ++ ⟨#[32, 118, 97, 108, 117, 101, 32]⟩ ++ vt)) := by
  have z0 : (⟨#[32]⟩ : ByteArray).size = 1 := rfl
  have z1 : (⟨#[32, 97, 116, 32]⟩ : ByteArray).size = 4 := rfl
  have z2 : (⟨#[32, 98, 121, 32]⟩ : ByteArray).size = 4 := rfl
  have z3 : (⟨#[32, 117, 110, 100, 101, 114, 32]⟩ : ByteArray).size = 7 := rfl
  have z4 : (⟨#[32, 104, 111, 112, 32]⟩ : ByteArray).size = 5 := rfl
  have z5 : (⟨#[32, 99, 111, 100, 101, 32]⟩ : ByteArray).size = 6 := rfl
  have z6 : (⟨#[32, 118, 97, 108, 117, 101, 32]⟩ : ByteArray).size = 7 := rfl
  unfold Dg Nm5 Kt5 at *
  try unfold Id5 at *
  obtain ⟨n1, y1⟩ := n1
  obtain ⟨n3, y3⟩ := n3
  obtain ⟨n4, y4⟩ := n4
  obtain ⟨n5, y5⟩ := n5
  obtain ⟨m1, ym1⟩ := m1
  obtain ⟨m2, ym2⟩ := m2
  refine Fv.of_awp Tryd.func47 rfl (by kernel_rfl) rfl (Nat.le_of_ble_eq_true rfl) ?_
  repeat' (conv => whnf
           first
           | (refine And.intro (by kernel_rfl) ?_)
           | (refine And.intro ⟨by kernel_rfl, by kernel_rfl⟩ ?_)
           | (refine Or.inl ⟨_, n1, ?_⟩)
           | (refine ⟨_, n1, ?_⟩)
           | (refine Or.inl ⟨_, n2, ?_⟩)
           | (refine ⟨_, n2, ?_⟩)
           | (refine Or.inl ⟨_, n3, ?_⟩)
           | (refine ⟨_, n3, ?_⟩)
           | (refine Or.inl ⟨_, n4, ?_⟩)
           | (refine ⟨_, n4, ?_⟩)
           | (refine Or.inl ⟨_, n5, ?_⟩)
           | (refine ⟨_, n5, ?_⟩)
           | (refine Or.inl ⟨_, m1, ?_⟩)
           | (refine ⟨_, m1, ?_⟩)
           | (refine Or.inl ⟨_, m2, ?_⟩)
           | (refine ⟨_, m2, ?_⟩)
           | (refine sz_ok (by first | omega | (simp only [ByteArray.size_append]; omega)) ?_)
           | (refine cond_f ?_ ?_)
           | (refine ⟨_, ⟨by decide, rfl⟩, ?_⟩)
           | (refine cond_i (fun h => ?_) (fun h => ?_)))
  all_goals (conv => whnf)
  all_goals rfl
set_option maxHeartbeats 4000000 in
theorem line5_1 (real node loc hop code value : Int) (key parent : Sp.Key) (root : Sp.Id) (r s nd lc kt vt : ByteArray) (n1 : Dg real r) (n2 : Nm5 1 s) (n3 : Dg node nd) (n4 : Dg loc lc) (n5 : Kt5 key kt) (hs : s.size ≤ 9) (m1 : Dg value vt) :
    Fv Tryd.prog 47 [.agg (⟨1, real, node, loc, key, parent, root, hop, code, value⟩ : Ev).g] (.str (r ++ ⟨#[32]⟩ ++ s ++ ⟨#[32, 97, 116, 32]⟩ ++ nd ++ ⟨#[32]⟩ ++ lc ++ ⟨#[32]⟩ ++ kt ++ ⟨#[32, 118, 97, 108, 117, 101, 32]⟩ ++ vt)) := by
  have z0 : (⟨#[32]⟩ : ByteArray).size = 1 := rfl
  have z1 : (⟨#[32, 97, 116, 32]⟩ : ByteArray).size = 4 := rfl
  have z2 : (⟨#[32, 98, 121, 32]⟩ : ByteArray).size = 4 := rfl
  have z3 : (⟨#[32, 117, 110, 100, 101, 114, 32]⟩ : ByteArray).size = 7 := rfl
  have z4 : (⟨#[32, 104, 111, 112, 32]⟩ : ByteArray).size = 5 := rfl
  have z5 : (⟨#[32, 99, 111, 100, 101, 32]⟩ : ByteArray).size = 6 := rfl
  have z6 : (⟨#[32, 118, 97, 108, 117, 101, 32]⟩ : ByteArray).size = 7 := rfl
  unfold Dg Nm5 Kt5 at *
  try unfold Id5 at *
  obtain ⟨n1, y1⟩ := n1
  obtain ⟨n3, y3⟩ := n3
  obtain ⟨n4, y4⟩ := n4
  obtain ⟨n5, y5⟩ := n5
  obtain ⟨m1, ym1⟩ := m1
  refine Fv.of_awp Tryd.func47 rfl (by kernel_rfl) rfl (Nat.le_of_ble_eq_true rfl) ?_
  repeat' (conv => whnf
           first
           | (refine And.intro (by kernel_rfl) ?_)
           | (refine And.intro ⟨by kernel_rfl, by kernel_rfl⟩ ?_)
           | (refine Or.inl ⟨_, n1, ?_⟩)
           | (refine ⟨_, n1, ?_⟩)
           | (refine Or.inl ⟨_, n2, ?_⟩)
           | (refine ⟨_, n2, ?_⟩)
           | (refine Or.inl ⟨_, n3, ?_⟩)
           | (refine ⟨_, n3, ?_⟩)
           | (refine Or.inl ⟨_, n4, ?_⟩)
           | (refine ⟨_, n4, ?_⟩)
           | (refine Or.inl ⟨_, n5, ?_⟩)
           | (refine ⟨_, n5, ?_⟩)
           | (refine Or.inl ⟨_, m1, ?_⟩)
           | (refine ⟨_, m1, ?_⟩)
           | (refine sz_ok (by first | omega | (simp only [ByteArray.size_append]; omega)) ?_)
           | (refine cond_f ?_ ?_)
           | (refine ⟨_, ⟨by decide, rfl⟩, ?_⟩)
           | (refine cond_i (fun h => ?_) (fun h => ?_)))
  all_goals (conv => whnf)
  all_goals rfl
set_option maxHeartbeats 4000000 in
theorem line5_10 (real node loc hop code value : Int) (key parent : Sp.Key) (root : Sp.Id) (r s nd lc kt vt : ByteArray) (n1 : Dg real r) (n2 : Nm5 10 s) (n3 : Dg node nd) (n4 : Dg loc lc) (n5 : Kt5 key kt) (hs : s.size ≤ 9) (m1 : Dg value vt) :
    Fv Tryd.prog 47 [.agg (⟨10, real, node, loc, key, parent, root, hop, code, value⟩ : Ev).g] (.str (r ++ ⟨#[32]⟩ ++ s ++ ⟨#[32, 97, 116, 32]⟩ ++ nd ++ ⟨#[32]⟩ ++ lc ++ ⟨#[32]⟩ ++ kt ++ ⟨#[32, 118, 97, 108, 117, 101, 32]⟩ ++ vt)) := by
  have z0 : (⟨#[32]⟩ : ByteArray).size = 1 := rfl
  have z1 : (⟨#[32, 97, 116, 32]⟩ : ByteArray).size = 4 := rfl
  have z2 : (⟨#[32, 98, 121, 32]⟩ : ByteArray).size = 4 := rfl
  have z3 : (⟨#[32, 117, 110, 100, 101, 114, 32]⟩ : ByteArray).size = 7 := rfl
  have z4 : (⟨#[32, 104, 111, 112, 32]⟩ : ByteArray).size = 5 := rfl
  have z5 : (⟨#[32, 99, 111, 100, 101, 32]⟩ : ByteArray).size = 6 := rfl
  have z6 : (⟨#[32, 118, 97, 108, 117, 101, 32]⟩ : ByteArray).size = 7 := rfl
  unfold Dg Nm5 Kt5 at *
  try unfold Id5 at *
  obtain ⟨n1, y1⟩ := n1
  obtain ⟨n3, y3⟩ := n3
  obtain ⟨n4, y4⟩ := n4
  obtain ⟨n5, y5⟩ := n5
  obtain ⟨m1, ym1⟩ := m1
  refine Fv.of_awp Tryd.func47 rfl (by kernel_rfl) rfl (Nat.le_of_ble_eq_true rfl) ?_
  repeat' (conv => whnf
           first
           | (refine And.intro (by kernel_rfl) ?_)
           | (refine And.intro ⟨by kernel_rfl, by kernel_rfl⟩ ?_)
           | (refine Or.inl ⟨_, n1, ?_⟩)
           | (refine ⟨_, n1, ?_⟩)
           | (refine Or.inl ⟨_, n2, ?_⟩)
           | (refine ⟨_, n2, ?_⟩)
           | (refine Or.inl ⟨_, n3, ?_⟩)
           | (refine ⟨_, n3, ?_⟩)
           | (refine Or.inl ⟨_, n4, ?_⟩)
           | (refine ⟨_, n4, ?_⟩)
           | (refine Or.inl ⟨_, n5, ?_⟩)
           | (refine ⟨_, n5, ?_⟩)
           | (refine Or.inl ⟨_, m1, ?_⟩)
           | (refine ⟨_, m1, ?_⟩)
           | (refine sz_ok (by first | omega | (simp only [ByteArray.size_append]; omega)) ?_)
           | (refine cond_f ?_ ?_)
           | (refine ⟨_, ⟨by decide, rfl⟩, ?_⟩)
           | (refine cond_i (fun h => ?_) (fun h => ?_)))
  all_goals (conv => whnf)
  all_goals rfl
set_option maxHeartbeats 4000000 in
theorem line5_o (kind : Int) (real node loc hop code value : Int) (key parent : Sp.Key) (root : Sp.Id) (r s nd lc kt  : ByteArray) (n1 : Dg real r) (n2 : Nm5 kind s) (n3 : Dg node nd) (n4 : Dg loc lc) (n5 : Kt5 key kt) (hs : s.size ≤ 9) 
    (b9 : (kind != 9) = true) (b2 : (kind == 2) = false) (b3 : (kind == 3) = false) (b5 : (kind == 5) = false) (b7 : (kind == 7) = false) (b6 : (kind == 6) = false) (b1 : (kind == 1) = false) (b10 : (kind == 10) = false) :
    Fv Tryd.prog 47 [.agg (⟨kind, real, node, loc, key, parent, root, hop, code, value⟩ : Ev).g] (.str (r ++ ⟨#[32]⟩ ++ s ++ ⟨#[32, 97, 116, 32]⟩ ++ nd ++ ⟨#[32]⟩ ++ lc ++ ⟨#[32]⟩ ++ kt)) := by
  have z0 : (⟨#[32]⟩ : ByteArray).size = 1 := rfl
  have z1 : (⟨#[32, 97, 116, 32]⟩ : ByteArray).size = 4 := rfl
  have z2 : (⟨#[32, 98, 121, 32]⟩ : ByteArray).size = 4 := rfl
  have z3 : (⟨#[32, 117, 110, 100, 101, 114, 32]⟩ : ByteArray).size = 7 := rfl
  have z4 : (⟨#[32, 104, 111, 112, 32]⟩ : ByteArray).size = 5 := rfl
  have z5 : (⟨#[32, 99, 111, 100, 101, 32]⟩ : ByteArray).size = 6 := rfl
  have z6 : (⟨#[32, 118, 97, 108, 117, 101, 32]⟩ : ByteArray).size = 7 := rfl
  unfold Dg Nm5 Kt5 at *
  try unfold Id5 at *
  obtain ⟨n1, y1⟩ := n1
  obtain ⟨n3, y3⟩ := n3
  obtain ⟨n4, y4⟩ := n4
  obtain ⟨n5, y5⟩ := n5
  refine Fv.of_awp Tryd.func47 rfl (by kernel_rfl) rfl (Nat.le_of_ble_eq_true rfl) ?_
  repeat' (conv => whnf
           first
           | (refine And.intro (by kernel_rfl) ?_)
           | (refine And.intro ⟨by kernel_rfl, by kernel_rfl⟩ ?_)
           | (refine Or.inl ⟨_, n1, ?_⟩)
           | (refine ⟨_, n1, ?_⟩)
           | (refine Or.inl ⟨_, n2, ?_⟩)
           | (refine ⟨_, n2, ?_⟩)
           | (refine Or.inl ⟨_, n3, ?_⟩)
           | (refine ⟨_, n3, ?_⟩)
           | (refine Or.inl ⟨_, n4, ?_⟩)
           | (refine ⟨_, n4, ?_⟩)
           | (refine Or.inl ⟨_, n5, ?_⟩)
           | (refine ⟨_, n5, ?_⟩)
           | (refine cond_1 b9 ?_)
           | (refine cond_0 b2 ?_)
           | (refine cond_0 b3 ?_)
           | (refine cond_0 b5 ?_)
           | (refine cond_0 b7 ?_)
           | (refine cond_0 b6 ?_)
           | (refine cond_0 b1 ?_)
           | (refine cond_0 b10 ?_)
           | (refine sz_ok (by first | omega | (simp only [ByteArray.size_append]; omega)) ?_)
           | (refine cond_f ?_ ?_)
           | (refine ⟨_, ⟨by decide, rfl⟩, ?_⟩)
           | (refine cond_i (fun h => ?_) (fun h => ?_)))
  all_goals (conv => whnf)
  all_goals rfl
end Go.Proofs.YtcihkmnolagdlaaDoor.Cn
namespace Go.Proofs.YtcihkmnolagdlaaDoor.Cn
open Go Go.Proofs Go.Proofs.YtcihkmnolagdlaaDoor.Av Go.Proofs.YtcihkmnolagdlaaDoor.Sp
set_option linter.unusedVariables false
set_option linter.unusedSimpArgs false
set_option linter.unusedSectionVars false
set_option maxRecDepth 100000
attribute [local irreducible] Fv Fp

/-- A line as the document has it. -/
def lineR (e : Ev) : ByteArray :=
  let b : ByteArray := itB e.real ++ ⟨#[32]⟩ ++ nameB e.kind ++ ⟨#[32, 97, 116, 32]⟩ ++ itB e.node ++ ⟨#[32]⟩ ++ itB e.loc
  if e.kind = 9 then b else
    let c := b ++ ⟨#[32]⟩ ++ keyB e.key
    if e.kind = 2 ∨ e.kind = 3 then c ++ ⟨#[32, 98, 121, 32]⟩ ++ keyB e.parent ++ ⟨#[32, 117, 110, 100, 101, 114, 32]⟩ ++ idB e.root ++ ⟨#[32, 104, 111, 112, 32]⟩ ++ itB e.hop
    else if e.kind = 5 ∨ e.kind = 6 ∨ e.kind = 7 then c ++ ⟨#[32, 99, 111, 100, 101, 32]⟩ ++ itB e.code ++ ⟨#[32, 118, 97, 108, 117, 101, 32]⟩ ++ itB e.value
    else if e.kind = 1 ∨ e.kind = 10 then c ++ ⟨#[32, 118, 97, 108, 117, 101, 32]⟩ ++ itB e.value else c
theorem line_same (e : Ev) : lineR e = lineE e := by
  apply ext_list
  show _ = (joinL (partsE e)).toArray.toList
  unfold lineR partsE tailE joinL
  (repeat' split) <;> (try omega) <;> simp only [app_list, List.map_append, List.map_cons, List.map_nil, List.cons_append, List.nil_append, Lib.join_cons, Lib.joinTail, List.flatten_cons, List.flatten_nil, List.append_assoc, List.append_nil, List.toList_toArray]
theorem ref25_Line (e : Ev) (h : okEv e) : Fv Tryd.prog 47 [.agg e.g] (.str (lineE e)) := by
  rw [← line_same]
  obtain ⟨⟨o1, o2, o3⟩, o4, o5, o6, o7, o8, o9⟩ := h
  have s0 := nameB_size e.kind
  have n1 : Dg _ _ := ⟨ref06_Digits _ o1, itB_size o1⟩
  have n2 := ref25_Name e.kind
  have n3 : Dg _ _ := ⟨ref06_Digits _ o2, itB_size o2⟩
  have n4 : Dg _ _ := ⟨ref06_Digits _ o3, itB_size o3⟩
  have n5 : Kt5 _ _ := ⟨ref07_KeyText _ o4, keyB_size o4⟩
  have m1 : Kt5 _ _ := ⟨ref07_KeyText _ o5, keyB_size o5⟩
  have m2 : Id5 _ _ := ⟨ref07_Text _ o6, idB_size o6⟩
  have m3 : Dg _ _ := ⟨ref06_Digits _ o7, itB_size o7⟩
  have m4 : Dg _ _ := ⟨ref06_Digits _ o8, itB_size o8⟩
  have m5 : Dg _ _ := ⟨ref06_Digits _ o9, itB_size o9⟩
  obtain ⟨kind, real, node, loc, key, parent, root, hop, code, value⟩ := e
  unfold lineR
  simp only at *
  by_cases h9 : kind = 9
  · subst h9; exact line5_9 _ _ _ _ _ _ _ _ _ _ _ _ _ _ n1 n2 n3 n4 n5 s0
  rw [if_neg h9]
  by_cases h2 : kind = 2
  · subst h2; exact line5_2 _ _ _ _ _ _ _ _ _ _ _ _ _ _ _ _ _ n1 n2 n3 n4 n5 s0 m1 m2 m3
  by_cases h3 : kind = 3
  · subst h3; exact line5_3 _ _ _ _ _ _ _ _ _ _ _ _ _ _ _ _ _ n1 n2 n3 n4 n5 s0 m1 m2 m3
  rw [if_neg (by omega)]
  by_cases h5 : kind = 5
  · subst h5; exact line5_5 _ _ _ _ _ _ _ _ _ _ _ _ _ _ _ _ n1 n2 n3 n4 n5 s0 m4 m5
  by_cases h6 : kind = 6
  · subst h6; exact line5_6 _ _ _ _ _ _ _ _ _ _ _ _ _ _ _ _ n1 n2 n3 n4 n5 s0 m4 m5
  by_cases h7 : kind = 7
  · subst h7; exact line5_7 _ _ _ _ _ _ _ _ _ _ _ _ _ _ _ _ n1 n2 n3 n4 n5 s0 m4 m5
  rw [if_neg (by omega)]
  by_cases h1 : kind = 1
  · subst h1; exact line5_1 _ _ _ _ _ _ _ _ _ _ _ _ _ _ _ n1 n2 n3 n4 n5 s0 m5
  by_cases h10 : kind = 10
  · subst h10; exact line5_10 _ _ _ _ _ _ _ _ _ _ _ _ _ _ _ n1 n2 n3 n4 n5 s0 m5
  rw [if_neg (by omega)]
  exact line5_o _ _ _ _ _ _ _ _ _ _ _ _ _ _ _ n1 n2 n3 n4 n5 s0 (by simpa using h9) (by simpa using h2) (by simpa using h3) (by simpa using h5) (by simpa using h7) (by simpa using h6) (by simpa using h1) (by simpa using h10)
set_option maxHeartbeats 4000000 in
theorem ref25_Text (l : List Ev) (hl : l.length ≤ 200) (h : ∀ e ∈ l, okEv e) : Fv Tryd.prog 19 [.sl (l.map Ev.g)] (.str (strL (textL lineE l))) := by
  have z0 : (⟨#[10]⟩ : ByteArray).size = 1 := rfl
  have hT := text_le l h
  refine Fv.of_awp Tryd.func19 rfl (by kernel_rfl) rfl (Nat.le_of_ble_eq_true rfl) ?_
  repeat' (conv => whnf
           first
           | (refine And.intro (by kernel_rfl) ?_)
           | (refine And.intro ⟨by kernel_rfl, by kernel_rfl⟩ ?_)
           | (refine cond_f ?_ ?_)
           | (refine ⟨_, ⟨by decide, rfl⟩, ?_⟩)
           | (refine cond_i (fun h => ?_) (fun h => ?_)))
  all_goals (conv => whnf)
  refine Has.each [0, 3, 4] [] l.length (fun j (b : ByteArray) => b = strL (textL lineE (l.take j))) (fun b i => St.of 20 [(0, .sl (l.map Ev.g)), (3, .str b), (4, .int .i64 i)] [] []) ⟨_, 0, rfl, rfl, rfl⟩ (fun j b hj hI => ?_) (fun b hI => ?_)
  · have f1 := row_at (R := Ev.g) hj
    have he := h l[j] (List.getElem_mem hj)
    have n1 := ref25_Line l[j] he
    have hs := textL_len (line := lineE) hj
    have e2 := textL_take (line := lineE) hj
    have hb : b.size = (textL lineE (l.take j)).length := by rw [hI, strL_size]
    have hls := lineE_size he
    rw [ByteArray.size_append] at hs
    generalize hx : lineE l[j] = x at *
    have z1 : b.size ≤ 1000000 := by omega
    have z2 : x.size ≤ 1100 := hls
    refine awp_go ?_
    repeat' (conv => whnf
             first
             | (refine And.intro (by kernel_rfl) ?_)
             | (refine And.intro ⟨by kernel_rfl, by kernel_rfl⟩ ?_)
             | (refine cond_1 (lt_at hj) ?_)
             | (refine ⟨_, f1, ?_⟩)
             | (refine Or.inl ⟨_, n1, ?_⟩)
             | (refine ⟨_, n1, ?_⟩)
             | (refine sz_ok (by first | omega | (simp only [ByteArray.size_append]; omega)) ?_)
             | (refine cond_f ?_ ?_)
             | (refine ⟨_, ⟨by decide, rfl⟩, ?_⟩)
             | (refine cond_i (fun h => ?_) (fun h => ?_)))
    all_goals (conv => whnf)
    refine ⟨b ++ x ++ ⟨#[10]⟩, _, rfl, ?_, up1 hj (by omega)⟩
    rw [e2, hI]
    apply ext_list
    simp only [app_list, strL_list, List.append_assoc]
  · rw [List.take_length] at hI
    subst hI
    refine awp_go ?_
    repeat' (conv => whnf
             first
             | (refine And.intro (by kernel_rfl) ?_)
             | (refine And.intro ⟨by kernel_rfl, by kernel_rfl⟩ ?_)
             | (refine cond_0 lt_end ?_)
             | (refine cond_f ?_ ?_)
             | (refine ⟨_, ⟨by decide, rfl⟩, ?_⟩)
             | (refine cond_i (fun h => ?_) (fun h => ?_)))
    all_goals (conv => whnf)
    all_goals rfl
set_option maxHeartbeats 8000000 in
theorem law25_EventTells (l : List Ev) (kind : Int) (k : Sp.Key) (h : ∀ e ∈ l, okEv e) : Fv Tryd.prog 6 [.sl (l.map Ev.g), .int .i64 kind, .agg k.g] (.bool true) := by
  have aw := law25_awake
  refine Fv.of_awp Tryd.func6 rfl (by kernel_rfl) rfl (Nat.le_of_ble_eq_true rfl) ?_
  by_cases hl : l.length > 60
  · have b1 : decide (((l.map Ev.g).length : Int) > 60) = true := decide_eq_true (by rw [List.length_map]; omega)
    repeat' (conv => whnf
             first
             | (refine And.intro (by kernel_rfl) ?_)
             | (refine And.intro ⟨by kernel_rfl, by kernel_rfl⟩ ?_)
             | (refine cond_1 b1 ?_)
             | (refine Or.inl ⟨_, aw, ?_⟩)
             | (refine ⟨_, aw, ?_⟩)
             | (refine cond_f ?_ ?_)
             | (refine ⟨_, ⟨by decide, rfl⟩, ?_⟩)
             | (refine cond_i (fun h => ?_) (fun h => ?_)))
    all_goals (conv => whnf)
    all_goals rfl
  have b1 : decide (((l.map Ev.g).length : Int) > 60) = false := decide_eq_false (by rw [List.length_map]; omega)
  have n1 := ev_Name kind
  have n2 := ref25_Name kind
  unfold Nm at n1
  unfold Nm5 at n2
  generalize nameB kind = s at n1 n2
  have c1 := strEq_self s
  have n3 := text_of l (by omega) h
  have n4 := ref25_Text l (by omega) h
  generalize strL (textL lineE l) = u at n3 n4
  have c2 := strEq_self u
  have n5 := ev_Of l kind (by omega)
  have n6 := ref25_Of l kind (by omega)
  have n7 := ref25_Same (l.filter fun e => e.kind == kind) (by have := List.length_filter_le (fun e : Ev => e.kind == kind) l; omega)
  have n8 := ev_Key l k (by omega)
  have n9 := ref25_Key l k (by omega)
  have n10 := ref25_Same (l.filter fun e => keyP k e) (by have := List.length_filter_le (fun e : Ev => keyP k e) l; omega)
  have n11 := ev_Below l k (by omega)
  have n12 := ref25_Below l k (by omega)
  have n13 := ref24_Same (belowL k l) (by have := belowL_len k l; omega)
  repeat' (conv => whnf
           first
           | (refine And.intro (by kernel_rfl) ?_)
           | (refine And.intro ⟨by kernel_rfl, by kernel_rfl⟩ ?_)
           | (refine cond_0 b1 ?_)
           | (refine Or.inl ⟨_, n1, ?_⟩)
           | (refine ⟨_, n1, ?_⟩)
           | (refine Or.inl ⟨_, n2, ?_⟩)
           | (refine ⟨_, n2, ?_⟩)
           | (refine cond_1 c1 ?_)
           | (refine Or.inl ⟨_, n3, ?_⟩)
           | (refine ⟨_, n3, ?_⟩)
           | (refine Or.inl ⟨_, n4, ?_⟩)
           | (refine ⟨_, n4, ?_⟩)
           | (refine cond_1 c2 ?_)
           | (refine Or.inl ⟨_, n5, ?_⟩)
           | (refine ⟨_, n5, ?_⟩)
           | (refine Or.inl ⟨_, n6, ?_⟩)
           | (refine ⟨_, n6, ?_⟩)
           | (refine Or.inl ⟨_, n7, ?_⟩)
           | (refine ⟨_, n7, ?_⟩)
           | (refine Or.inl ⟨_, n8, ?_⟩)
           | (refine ⟨_, n8, ?_⟩)
           | (refine Or.inl ⟨_, n9, ?_⟩)
           | (refine ⟨_, n9, ?_⟩)
           | (refine Or.inl ⟨_, n10, ?_⟩)
           | (refine ⟨_, n10, ?_⟩)
           | (refine Or.inl ⟨_, n11, ?_⟩)
           | (refine ⟨_, n11, ?_⟩)
           | (refine Or.inl ⟨_, n12, ?_⟩)
           | (refine ⟨_, n12, ?_⟩)
           | (refine Or.inl ⟨_, n13, ?_⟩)
           | (refine ⟨_, n13, ?_⟩)
           | (refine Or.inl ⟨_, aw, ?_⟩)
           | (refine ⟨_, aw, ?_⟩)
           | (refine cond_f ?_ ?_)
           | (refine ⟨_, ⟨by decide, rfl⟩, ?_⟩)
           | (refine cond_i (fun h => ?_) (fun h => ?_)))
  all_goals (conv => whnf)
  all_goals rfl
end Go.Proofs.YtcihkmnolagdlaaDoor.Cn
