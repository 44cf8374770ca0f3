
/- Contracts: identities and keys as text. No condition but that numbers are of 64 bits. -/
import Derived.Test.YtcihkmnolagdlaaDoorSp1
import Derived.Test.YtcihkmnolagdlaaDoorCn0
import Derived.Test.YtcihkmnolagdlaaDoorSp21
import Derived.Test.YtcihkmnolagdlaaDoorCn96
import Derived.Test.YtcihkmnolagdlaaDoorProg
import Derived.KernelRfl
import Derived.Test.YtcihkmnolagdlaaDoorAv18
namespace Go.Proofs.YtcihkmnolagdlaaDoor.Cn
open Go Go.Proofs Go.Proofs.YtcihkmnolagdlaaDoor.Av Go.Proofs.YtcihkmnolagdlaaDoor.Sp
set_option linter.unusedVariables false
set_option linter.unusedSimpArgs false
set_option linter.unusedSectionVars false
set_option maxRecDepth 100000
attribute [local irreducible] Fv Fp

def i64 (n : Int) : Prop := -9223372036854775808 ≤ n ∧ n ≤ 9223372036854775807
theorem decs_le : ∀ (k n : Nat), n < 10 ^ (k + 1) → (Lib.decDigits n).length ≤ k + 1
  | 0, n, h => by rw [Lib.decDigits, dif_pos (by simpa using h)]; exact Nat.le_refl _
  | k + 1, n, h => by
    by_cases h0 : n < 10
    · rw [Lib.decDigits, dif_pos h0]; simp
    · rw [Lib.decDigits, dif_neg h0]
      have := decs_le k (n / 10) (by rw [Nat.pow_succ] at h; omega)
      simp only [List.length_append, List.length_cons, List.length_nil]
      omega
def itB (n : Int) : ByteArray := strL' (Lib.itoa n)
theorem itB_size {n : Int} (h : i64 n) : (itB n).size ≤ 20 := by
  have e : (itB n).size = (Lib.itoa n).length := by show (Lib.itoa n).toArray.size = _; simp
  rw [e]
  obtain ⟨h1, h2⟩ := h
  unfold Lib.itoa
  split
  · have := decs_le 18 n.natAbs (by omega)
    simp only [List.length_cons]; omega
  · have := decs_le 18 n.toNat (by omega)
    omega
theorem it_Itoa (n : Int) (h : i64 n) : Fv Tryd.prog 53 [.int .i64 n] (.str (itB n)) := ev_Itoa n h
def idB (d : Sp.Id) : ByteArray := itB d.node ++ ⟨#[46]⟩ ++ itB d.inc ++ ⟨#[46]⟩ ++ itB d.seq
def okId (d : Sp.Id) : Prop := i64 d.node ∧ i64 d.inc ∧ i64 d.seq
theorem sz_ok {x y : ByteArray} {K : Prop} (h : x.size + y.size ≤ 9223372036854775807) (k : K) : ((x.size + y.size : Nat) : Int) ≤ 9223372036854775807 ∧ K := ⟨by omega, k⟩
theorem id_text (a b c : ByteArray) (d : Sp.Id) (ha : a.size ≤ 20) (hb : b.size ≤ 20) (hc : c.size ≤ 20) (n1 : Fv Tryd.prog 53 [.int .i64 d.node] (.str a)) (n2 : Fv Tryd.prog 53 [.int .i64 d.inc] (.str b)) (n3 : Fv Tryd.prog 53 [.int .i64 d.seq] (.str c)) :
    Fv Tryd.prog 56 [.agg d.g] (.str (a ++ ⟨#[46]⟩ ++ b ++ ⟨#[46]⟩ ++ c)) := by
  have z0 : (⟨#[46]⟩ : ByteArray).size = 1 := rfl
  refine Fv.of_awp Tryd.func56 rfl (by kernel_rfl) rfl (Nat.le_of_ble_eq_true rfl) ?_
  repeat' (conv => whnf
           first
           | (refine And.intro (by kernel_rfl) ?_)
           | (refine And.intro ⟨by kernel_rfl, by kernel_rfl⟩ ?_)
           | (refine Or.inl ⟨_, n1, ?_⟩)
           | (refine ⟨_, n1, ?_⟩)
           | (refine Or.inl ⟨_, n2, ?_⟩)
           | (refine ⟨_, n2, ?_⟩)
           | (refine Or.inl ⟨_, n3, ?_⟩)
           | (refine ⟨_, n3, ?_⟩)
           | (refine sz_ok (by first | omega | (simp only [ByteArray.size_append]; omega)) ?_)
           | (refine cond_f ?_ ?_)
           | (refine ⟨_, ⟨by decide, rfl⟩, ?_⟩)
           | (refine cond_i (fun h => ?_) (fun h => ?_)))
  all_goals (conv => whnf)
  all_goals rfl
theorem ident_Text (d : Sp.Id) (h : okId d) : Fv Tryd.prog 56 [.agg d.g] (.str (idB d)) := by
  unfold idB
  exact id_text (itB d.node) (itB d.inc) (itB d.seq) d (itB_size h.1) (itB_size h.2.1) (itB_size h.2.2) (it_Itoa _ h.1) (it_Itoa _ h.2.1) (it_Itoa _ h.2.2)
theorem idB_size {d : Sp.Id} (h : okId d) : (idB d).size ≤ 62 := by
  have := itB_size h.1; have := itB_size h.2.1; have := itB_size h.2.2
  have z0 : (⟨#[46]⟩ : ByteArray).size = 1 := rfl
  unfold idB; rw [ByteArray.size_append, ByteArray.size_append, ByteArray.size_append, ByteArray.size_append]; omega
def keyB (k : Sp.Key) : ByteArray := idB k.id ++ ⟨#[47]⟩ ++ itB k.att
def okKey (k : Sp.Key) : Prop := okId k.id ∧ i64 k.att
theorem key_text (a b : ByteArray) (k : Sp.Key) (ha : a.size ≤ 62) (hb : b.size ≤ 20) (n1 : Fv Tryd.prog 56 [.agg k.id.g] (.str a)) (n2 : Fv Tryd.prog 53 [.int .i64 k.att] (.str b)) :
    Fv Tryd.prog 55 [.agg k.g] (.str (a ++ ⟨#[47]⟩ ++ b)) := by
  have z0 : (⟨#[47]⟩ : ByteArray).size = 1 := rfl
  refine Fv.of_awp Tryd.func55 rfl (by kernel_rfl) rfl (Nat.le_of_ble_eq_true rfl) ?_
  repeat' (conv => whnf
           first
           | (refine And.intro (by kernel_rfl) ?_)
           | (refine And.intro ⟨by kernel_rfl, by kernel_rfl⟩ ?_)
           | (refine Or.inl ⟨_, n1, ?_⟩)
           | (refine ⟨_, n1, ?_⟩)
           | (refine Or.inl ⟨_, n2, ?_⟩)
           | (refine ⟨_, n2, ?_⟩)
           | (refine sz_ok (by first | omega | (simp only [ByteArray.size_append]; omega)) ?_)
           | (refine cond_f ?_ ?_)
           | (refine ⟨_, ⟨by decide, rfl⟩, ?_⟩)
           | (refine cond_i (fun h => ?_) (fun h => ?_)))
  all_goals (conv => whnf)
  all_goals rfl
theorem ident_KeyText (k : Sp.Key) (h : okKey k) : Fv Tryd.prog 55 [.agg k.g] (.str (keyB k)) := by
  unfold keyB
  exact key_text (idB k.id) (itB k.att) k (idB_size h.1) (itB_size h.2) (ident_Text _ h.1) (it_Itoa _ h.2)
theorem keyB_size {k : Sp.Key} (h : okKey k) : (keyB k).size ≤ 83 := by
  have := idB_size h.1; have := itB_size h.2
  have z0 : (⟨#[47]⟩ : ByteArray).size = 1 := rfl
  unfold keyB; rw [ByteArray.size_append, ByteArray.size_append]; omega
end Go.Proofs.YtcihkmnolagdlaaDoor.Cn
