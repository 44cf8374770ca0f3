/- Law 38: however a stream is cut to pieces. No condition but sizes. -/
import Derived.Test.YtijohhdgecadnaaSp1
import Derived.Test.YtijohhdgecadnaaProg
import Derived.KernelRfl
import Derived.Test.YtijohhdgecadnaaCn36
import Derived.Test.YtijohhdgecadnaaAv16
namespace Go.Proofs.Ytijohhdgecadnaa.Cn
open Go Go.Proofs Go.Proofs.Ytijohhdgecadnaa.Av Go.Proofs.Ytijohhdgecadnaa.Sp
set_option linter.unusedVariables false
set_option linter.unusedSimpArgs false
set_option maxRecDepth 100000
attribute [local irreducible] Fv Fp

def _root_.Go.Proofs.Ytijohhdgecadnaa.Sp.piecesF (s : ByteArray) : List Int → Nat → List ByteArray
  | [], f => [s.extract f s.size]
  | c :: cs, f => if (f : Int) < c ∧ c ≤ s.size then s.extract f c.toNat :: piecesF s cs c.toNat else piecesF s cs f
def catB (l : List ByteArray) : ByteArray := l.foldl (· ++ ·) emptyB
theorem catB_from (l : List ByteArray) : ∀ a, l.foldl (· ++ ·) a = a ++ catB l := by
  induction l with
  | nil => intro a; exact (app_empty a).symm
  | cons x l ih =>
    intro a
    show l.foldl (· ++ ·) (a ++ x) = a ++ l.foldl (· ++ ·) (emptyB ++ x)
    rw [ih, ih (emptyB ++ x), empty_app, app_assoc]
theorem catB_cons (x : ByteArray) (l : List ByteArray) : catB (x :: l) = x ++ catB l := by
  show l.foldl (· ++ ·) (emptyB ++ x) = _
  rw [catB_from, empty_app]
theorem catB_snoc (l : List ByteArray) (x : ByteArray) : catB (l ++ [x]) = catB l ++ x := by unfold catB; rw [List.foldl_append]; rfl
theorem ext_join (s : ByteArray) (a b c : Nat) (h1 : a ≤ b) (h2 : b ≤ c) : s.extract a b ++ s.extract b c = s.extract a c := by
  apply ext_list
  rw [app_list, ext_take, ext_take, ext_take]
  have key : ∀ m : List UInt8, (m.take b).drop a ++ m.drop b = m.drop a := fun m => by
    have h := List.drop_append (l₁ := m.take b) (l₂ := m.drop b) (i := a)
    rw [List.take_append_drop] at h
    rw [h]
    congr 1
    by_cases hb : b ≤ m.length
    · rw [List.length_take, Nat.min_eq_left hb, Nat.sub_eq_zero_of_le h1]; rfl
    · rw [List.drop_eq_nil_of_le (show m.length ≤ b by omega), List.drop_nil]
  have e := key (s.data.toList.take c)
  rw [List.take_take, Nat.min_eq_left h2] at e
  exact e
theorem piecesF_cat (s : ByteArray) : ∀ (cs : List Int) (f : Nat), f ≤ s.size → catB (piecesF s cs f) = s.extract f s.size
  | [], f, _ => by show emptyB ++ _ = _; rw [empty_app]
  | c :: cs, f, h => by
    unfold piecesF
    split
    · rename_i hc
      rw [catB_cons, piecesF_cat s cs c.toNat (by omega), ext_join s f c.toNat s.size (by omega) (by omega)]
    · exact piecesF_cat s cs f h
theorem piecesF_len (s : ByteArray) : ∀ (cs : List Int) (f : Nat), (piecesF s cs f).length ≤ cs.length + 1
  | [], f => Nat.le_refl _
  | c :: cs, f => by
    unfold piecesF
    split
    · have := piecesF_len s cs c.toNat; simp only [List.length_cons]; omega
    · have := piecesF_len s cs f; simp only [List.length_cons]; omega
def intG (n : Int) : List G := [.int .i64 n]
theorem str_cell {l : List ByteArray} : ∀ r ∈ l.map strG, r.length = 1 := fun r hr => by obtain ⟨x, _, rfl⟩ := List.mem_map.1 hr; rfl
structure PcB where
  out : List ByteArray
  from' : Nat
theorem own_snoc {α : Type} {l : List α} {R : α → List G} {x : α} {r : List G} (h : R x = r) : ((l.map R).drop 0).take l.length ++ [r] = (l ++ [x]).map R := by
  rw [List.drop_zero, List.take_of_length_le (by simp), List.map_append, ← h]; rfl
set_option maxHeartbeats 4000000 in
theorem law38_pieces (s : ByteArray) (cs : List Int) (hs : s.size < 4611686018427387904) (hc : cs.length ≤ 1000) :
    Fp Try.prog 38 [.str s, .sl (cs.map intG)] [] [] (.own 0 0 (piecesF s cs 0).length, [], [some ((piecesF s cs 0).map strG)]) := by
  have hlen := piecesF_len s cs 0
  obtain ⟨R, hR⟩ : ∃ R, piecesF s cs 0 = R := ⟨_, rfl⟩
  rw [hR] at hlen ⊢
  refine Fp.of_awp Try.func38 rfl (by kernel_rfl) (Nat.le_of_ble_eq_true rfl) ?_
  repeat' (conv => whnf
           first
           | (refine And.intro (by kernel_rfl) ?_)
           | (refine And.intro ⟨by kernel_rfl, by kernel_rfl⟩ ?_)
           | (refine cond_f ?_ ?_)
           | (refine ⟨_, ⟨by decide, rfl⟩, ?_⟩)
           | (refine cond_i (fun h => ?_) (fun h => ?_)))
  all_goals (conv => whnf)
  refine Has.own0 5 38 rfl rfl ?_
  refine Has.each [0, 1, 5, 6, 7] [] cs.length (fun k (b : PcB) => b.out ++ piecesF s (cs.drop k) b.from' = R ∧ b.from' ≤ s.size) (fun b i =>
    St.of 49 [(0, .str s), (1, .sl (cs.map intG)), (5, .own 38 0 b.out.length), (6, .int .i64 (b.from' : Nat)), (7, .int .i64 i)] [] [(38, b.out.map strG)]) ⟨⟨[], 0⟩, 0, rfl, ⟨by simpa using hR, Nat.zero_le _⟩, rfl⟩ (fun k b hk hI => ?_) (fun b hI => ?_)
  · obtain ⟨out, f⟩ := b
    obtain ⟨i1, i2⟩ := hI
    simp only at i1 i2 ⊢
    have f1 := row_at (R := intG) hk
    have wk : IntKind.i64.wrap ((k : Int) + 1) = (k : Int) + 1 := wrap_i64 (by omega)
    rw [List.drop_eq_getElem_cons hk] at i1
    obtain ⟨c, hcc⟩ : ∃ c, cs[k] = c := ⟨_, rfl⟩
    rw [hcc] at i1 f1
    unfold piecesF at i1
    by_cases c1 : c > (f : Int)
    · have b1 : decide (c > ((f : Nat) : Int)) = true := decide_eq_true c1
      by_cases c2 : c ≤ (s.size : Int)
      · have b2 : decide (c ≤ (s.size : Int)) = true := decide_eq_true c2
        rw [if_pos ⟨c1, c2⟩] at i1
        have hl : (out ++ s.extract f c.toNat :: piecesF s (cs.drop (k + 1)) c.toNat).length = R.length := by rw [i1]
        simp only [List.length_append, List.length_cons] at hl
        have f2 : (0 : Int) ≤ ((f : Nat) : Int) ∧ ((f : Nat) : Int) ≤ c ∧ c ≤ (s.size : Int) := ⟨by omega, by omega, c2⟩
        have f3 : ∀ g : List G, 0 + out.length ≤ (out.map strG).length ∧ (0 < out.length + [g].length ∨ out.map strG = []) ∧ fitsB Try.prog 9 (out.length + [g].length) ∧ ∀ r ∈ out.map strG, r.length = Try.prog.cellsOf 9 := fun g =>
          ⟨by simp, .inl (by simp), fits 16 (by kernel_rfl) (by simp; omega), fun r hr => by rw [show Try.prog.cellsOf 9 = 1 from by kernel_rfl]; exact str_cell r hr⟩
        refine awp_go ?_
        repeat' (conv => whnf
                 first
                 | (refine And.intro (by kernel_rfl) ?_)
                 | (refine And.intro ⟨by kernel_rfl, by kernel_rfl⟩ ?_)
                 | (refine cond_1 (lt_at hk) ?_)
                 | (refine ⟨_, f1, ?_⟩)
                 | (refine cond_1 b1 ?_)
                 | (refine cond_1 b2 ?_)
                 | (refine ⟨f2, ?_⟩)
                 | (refine ⟨f3 _, ?_⟩)
                 | (refine cond_f ?_ ?_)
                 | (refine ⟨_, ⟨by decide, rfl⟩, ?_⟩)
                 | (refine cond_i (fun h => ?_) (fun h => ?_)))
        all_goals (conv => whnf)
        refine ⟨⟨out ++ [s.extract f c.toNat], c.toNat⟩, _, ?_, ⟨by rw [← i1]; simp, by simp only; omega⟩, wk⟩
        have e1 := own_snoc (l := out) (R := strG) (x := s.extract f c.toNat) rfl
        have e2 : ((c.toNat : Nat) : Int) = c := by omega
        simp only
        rw [e2, ← e1, List.length_append]
        rfl
      · have b2 : decide (c ≤ (s.size : Int)) = false := decide_eq_false c2
        rw [if_neg (fun h => c2 h.2)] at i1
        refine awp_go ?_
        repeat' (conv => whnf
                 first
                 | (refine And.intro (by kernel_rfl) ?_)
                 | (refine And.intro ⟨by kernel_rfl, by kernel_rfl⟩ ?_)
                 | (refine cond_1 (lt_at hk) ?_)
                 | (refine ⟨_, f1, ?_⟩)
                 | (refine cond_1 b1 ?_)
                 | (refine cond_0 b2 ?_)
                 | (refine cond_f ?_ ?_)
                 | (refine ⟨_, ⟨by decide, rfl⟩, ?_⟩)
                 | (refine cond_i (fun h => ?_) (fun h => ?_)))
        all_goals (conv => whnf)
        exact ⟨⟨out, f⟩, _, rfl, ⟨i1, i2⟩, wk⟩
    · have b1 : decide (c > ((f : Nat) : Int)) = false := decide_eq_false c1
      rw [if_neg (fun h => c1 h.1)] at i1
      refine awp_go ?_
      repeat' (conv => whnf
               first
               | (refine And.intro (by kernel_rfl) ?_)
               | (refine And.intro ⟨by kernel_rfl, by kernel_rfl⟩ ?_)
               | (refine cond_1 (lt_at hk) ?_)
               | (refine ⟨_, f1, ?_⟩)
               | (refine cond_0 b1 ?_)
               | (refine cond_f ?_ ?_)
               | (refine ⟨_, ⟨by decide, rfl⟩, ?_⟩)
               | (refine cond_i (fun h => ?_) (fun h => ?_)))
      all_goals (conv => whnf)
      exact ⟨⟨out, f⟩, _, rfl, ⟨i1, i2⟩, wk⟩
  · obtain ⟨out, f⟩ := b
    obtain ⟨i1, i2⟩ := hI
    simp only at i1 i2 ⊢
    rw [List.drop_length] at i1
    unfold piecesF at i1
    have hl : (out ++ [s.extract f s.size]).length = R.length := by rw [i1]
    simp only [List.length_append, List.length_cons, List.length_nil] at hl
    have f2 : (0 : Int) ≤ ((f : Nat) : Int) ∧ ((f : Nat) : Int) ≤ ((s.size : Nat) : Int) ∧ ((s.size : Nat) : Int) ≤ (s.size : Int) := ⟨by omega, by omega, by omega⟩
    have f3 : ∀ g : List G, 0 + out.length ≤ (out.map strG).length ∧ (0 < out.length + [g].length ∨ out.map strG = []) ∧ fitsB Try.prog 9 (out.length + [g].length) ∧ ∀ r ∈ out.map strG, r.length = Try.prog.cellsOf 9 := fun g =>
      ⟨by simp, .inl (by simp), fits 16 (by kernel_rfl) (by simp; omega), fun r hr => by rw [show Try.prog.cellsOf 9 = 1 from by kernel_rfl]; exact str_cell r hr⟩
    refine awp_go ?_
    repeat' (conv => whnf
             first
             | (refine And.intro (by kernel_rfl) ?_)
             | (refine And.intro ⟨by kernel_rfl, by kernel_rfl⟩ ?_)
             | (refine cond_0 lt_end ?_)
             | (refine ⟨f2, ?_⟩)
             | (refine ⟨f3 _, ?_⟩)
             | (refine cond_f ?_ ?_)
             | (refine ⟨_, ⟨by decide, rfl⟩, ?_⟩)
             | (refine cond_i (fun h => ?_) (fun h => ?_)))
    all_goals (conv => whnf)
    have e1 := own_snoc (l := out) (R := strG) (x := s.extract f s.size) rfl
    rw [← i1, ← e1, List.length_append]
    rfl
end Go.Proofs.Ytijohhdgecadnaa.Cn
