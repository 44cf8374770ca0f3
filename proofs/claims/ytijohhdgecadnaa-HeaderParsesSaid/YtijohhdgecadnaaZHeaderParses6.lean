/- One text out of several: Cn149, Cn145, Sp34, Cn151, Cn109d, Cn152, Cn153, Cn154, Cn150, Cn155, Av15. No condition but theirs. -/
import Derived.Lib.ItoaNum
import Derived.Test.YtijohhdgecadnaaProg
import Derived.KernelRfl
import Derived.Deep.Slices
import Derived.SizedLaws
import Derived.ChangeOld
import Derived.WideShapes
import Derived.ChangeShapes
import Derived.Test.YtijohhdgecadnaaZHeaderParses4
import Derived.Test.YtijohhdgecadnaaZHeaderParses5
namespace Go.Proofs.Ytijohhdgecadnaa.Cn
open Go Go.Proofs Go.Proofs.Ytijohhdgecadnaa.Av Go.Proofs.Ytijohhdgecadnaa.Sp Go.RowKit
set_option linter.unusedVariables false
set_option linter.unusedSimpArgs false
set_option linter.unusedSectionVars false
set_option maxRecDepth 100000
attribute [local irreducible] Fv Fp

/-- The parts of the loop's state. -/
def paSl : List G := mkS 49 0 [(2, .ptr 2 0), (3, .ptr 3 0), (4, .ptr 4 0), (5, .ptr 5 0), (6, .ptr 6 0), (7, .ptr 7 0), (15, .fn 74 [.ptr 15 0])]
def paBx (q : Trl) (l e : Int) (t : Trl) (h0 h1 h2 : Bool) (n : Int) (r : ByteArray) : List (Option (List G)) :=
  mkB 57 0 [(2, q.g), (3, [.int .i64 l]), (4, [.int .i64 e]), (5, t.g), (6, [.bool h0, .bool h1, .bool h2]), (7, [.int .i64 n]), (15, [.str r])]
theorem mkB_mem (l : List (Nat × List G)) : ∀ (n i : Nat) cs, some cs ∈ mkB n i l → ∃ p ∈ l, p.2 = cs
  | 0, i, cs, h => by simp [mkB] at h
  | n + 1, i, cs, h => by
    rw [mkB] at h
    rcases List.mem_cons.1 h with h | h
    · cases hf : l.find? (fun p => Nat.beq p.1 i) with
      | none => rw [hf] at h; cases h
      | some p => rw [hf] at h; cases h; exact ⟨p, List.mem_of_find?_eq_some hf, rfl⟩
    · exact mkB_mem l n (i + 1) cs h
theorem paBx_closed {q : Trl} {l e : Int} {t : Trl} {h0 h1 h2 : Bool} {n : Int} {r : ByteArray} : ∀ cs, some cs ∈ paBx q l e t h0 h1 h2 n r → ∀ g ∈ cs, g.closed0 = true := fun cs hcs g hg => by
  obtain ⟨p, hp, rfl⟩ := mkB_mem _ _ _ _ hcs
  simp only [List.mem_cons, List.not_mem_nil, or_false] at hp
  rcases hp with rfl | rfl | rfl | rfl | rfl | rfl | rfl <;> simp only [Trl.g, List.mem_cons, List.not_mem_nil, or_false] at hg <;> rcases hg with rfl | rfl | rfl <;> rfl
def paI (s : ByteArray) (pre : List ByteArray) (bx : List (Option (List G))) : Prop := ∃ t h0 h1 h2 n r, bx = paBx tr0 0 0 t h0 h1 h2 n r ∧ n = (pre.length : Nat) ∧ ∀ suf, linesB s = pre ++ suf → parseT s = parseP suf n t h0 h1 h2
def paX (s : ByteArray) (c : Code) (bx : List (Option (List G))) : Prop := c = .ret ∧ ∃ t h0 h1 h2 n r, bx = paBx (parseT s).1 (parseT s).2.1 (parseT s).2.2 t h0 h1 h2 n r
set_option maxHeartbeats 8000000 in
theorem hd_Parse (s : ByteArray) (h : s.size ≤ 1000000) : Fv Try.prog 47 [.str s] (resG (parseT s)) := by
  refine Fv.of_range (p := 16) Try.func47 rfl (by kernel_rfl) rfl (Nat.le_of_ble_eq_true rfl) str_iter (enters_of Try.func74 (by kernel_rfl) rfl) [2, 3, 4, 5, 6, 7, 15] [] paSl (paBx tr0 0 0 tr1 false false false 0 s) 57 15 s (by show s.size < _; omega)
    rfl rfl rfl (paI s) (paX s) ⟨tr1, false, false, false, 0, s, rfl, rfl, fun suf hs => by rw [← show linesB s = suf from hs]; rfl⟩ ?_ ?_ ?_ (fun pre x suf bx hx hI => ?_) (fun bx hI => ?_) (fun c bx hX => ?_)
  · rintro pre bx r ⟨t, h0, h1, h2, n, r0, rfl, h3, h4⟩
    exact ⟨t, h0, h1, h2, n, r, rfl, h3, h4⟩
  · rintro pre bx ⟨t, h0, h1, h2, n, r0, rfl, h3, h4⟩
    exact ⟨r0, rfl⟩
  · skip
    repeat' (conv => whnf
             first
             | (refine And.intro (Or.inl (by kernel_rfl)) ?_)
             | (refine And.intro (by kernel_rfl) ?_)
             | (refine And.intro ⟨by kernel_rfl, by kernel_rfl⟩ ?_)
             | (refine Or.inr ⟨_, str_Lines s, ?_⟩)
             | (refine cond_f ?_ ?_)
             | (refine ⟨_, ⟨by decide, rfl⟩, ?_⟩)
             | (refine cond_i (fun h => ?_) (fun h => ?_)))
    all_goals (conv => whnf)
    all_goals rfl
  · obtain ⟨t, h0, h1, h2, n, r, rfl, hn, hp⟩ := hI
    have hp := hp _ hx
    obtain ⟨hl1, hl2⟩ := linesB_len s
    have hxs := hl2 x (by rw [hx]; simp)
    have hlen : pre.length < 1000000 := by have := congrArg List.length hx; rw [List.length_append, List.length_cons] at this; omega
    have w1 : IntKind.i64.wrap (n + 1) = n + 1 := wrap_i64 (by omega)
    have wn : IntKind.i64.wrap (n + 1) = ((pre ++ [x]).length : Nat) := by rw [w1, hn]; simp
    have n1 : Fv Try.prog 64 [.str x, .str ⟨#[10]⟩] (.str (strL (trimL x))) := str_TrimSuffix x ⟨#[10]⟩ (by omega)
    have n2 : Fv Try.prog 63 [.str (strL (trimL x)), .str ⟨#[58, 32]⟩] (.tup [.str (strL (cutL x).1), .str (strL (cutL x).2.1), .bool (cutL x).2.2]) := str_Cut (strL (trimL x)) ⟨#[58, 32]⟩ (by rw [strL_size]; have := trimL_len x; omega)
    obtain ⟨hc1, hc2⟩ := cutL_len x
    have hgo : ∀ (suf' : List ByteArray), linesB s = (pre ++ [x]) ++ suf' → suf' = suf := fun suf' e => by
      rw [List.append_assoc] at e
      have := List.append_cancel_left (hx.symm.trans e)
      simpa using this.symm
    obtain ⟨t0, hst⟩ : ∃ t0, t0 = parseT s := ⟨_, rfl⟩
    unfold paI paX
    rw [← hst] at hp ⊢
    clear hst hl1 hl2
    rw [parseP] at hp
    generalize cutL x = q at *
    obtain ⟨name, rest, ok⟩ := q
    simp only at hp n2 hc1 hc2
    have n3 : Fv Try.prog 65 [.str (strL name)] (.int .i64 (kindN name : Nat)) := hd_kind (strL name) (by rw [strL_size]; omega)
    cases ok with
    | false =>
      have b1 : (!false) = true := rfl
      have e : t0 = (tr0, IntKind.i64.wrap (n + 1), 5) := by rw [hp, w1]; rfl
      rw [e]
      repeat' (conv => whnf
               first
               | (refine And.intro (Or.inl (by kernel_rfl)) ?_)
               | (refine And.intro (by kernel_rfl) ?_)
               | (refine And.intro ⟨by kernel_rfl, by kernel_rfl⟩ ?_)
               | (refine Or.inl ⟨_, n1, ?_⟩)
               | (refine ⟨_, n1, ?_⟩)
               | (refine Or.inl ⟨_, n2, ?_⟩)
               | (refine ⟨_, n2, ?_⟩)
               | (refine cond_f ?_ ?_)
               | (refine ⟨_, ⟨by decide, rfl⟩, ?_⟩)
               | (refine cond_i (fun h => ?_) (fun h => ?_)))
      all_goals (conv => whnf)
      exact ⟨⟨rfl, t, h0, h1, h2, (IntKind.i64.wrap (n + 1)), r, rfl⟩, paBx_closed (q := tr0) (l := (IntKind.i64.wrap (n + 1))) (e := 5) (t := t) (h0 := h0) (h1 := h1) (h2 := h2) (n := (IntKind.i64.wrap (n + 1))) (r := r)⟩
    | true =>
      rw [if_neg (by simp)] at hp
      have hk3 : kindN name = 0 ∨ kindN name = 1 ∨ kindN name = 2 ∨ kindN name = 3 := by unfold kindN; (repeat' split) <;> simp
      rcases hk3 with hk | hk | hk | hk
      · rw [hk] at n3 hp
        have n3 : Fv Try.prog 65 [.str (strL name)] (.int .i64 0) := n3
        have f3 : 0 ≤ (0 : Int) ∧ (0 : Int) < ((3 : Nat) : Int) := by decide
        have n4 : Fp Try.prog 66 [.ptr 0 0, .int .i64 0, .str (strL rest)] [t.g] [] (.tup [], [some [.int .i64 (codeI rest), .str t.msg, .int .i64 t.push]], []) := hd_value0 (strL rest) t.code t.push t.msg
        cases h0 with
        | true =>
          have e : t0 = (tr0, IntKind.i64.wrap (n + 1), 8) := by rw [hp, w1]; rfl
          rw [e]
          repeat' (conv => whnf
                   first
                   | (refine And.intro (Or.inl (by kernel_rfl)) ?_)
                   | (refine And.intro (by kernel_rfl) ?_)
                   | (refine And.intro ⟨by kernel_rfl, by kernel_rfl⟩ ?_)
                   | (refine Or.inl ⟨_, n1, ?_⟩)
                   | (refine ⟨_, n1, ?_⟩)
                   | (refine Or.inl ⟨_, n2, ?_⟩)
                   | (refine ⟨_, n2, ?_⟩)
                   | (refine Or.inl ⟨_, n3, ?_⟩)
                   | (refine ⟨_, n3, ?_⟩)
                   | (refine Or.inr ⟨_, n4, ?_⟩)
                   | (refine ⟨f3, ?_⟩)
                   | (refine cond_f ?_ ?_)
                   | (refine ⟨_, ⟨by decide, rfl⟩, ?_⟩)
                   | (refine cond_i (fun h => ?_) (fun h => ?_)))
          all_goals (conv => whnf)
          exact ⟨⟨rfl, t, true, h1, h2, (IntKind.i64.wrap (n + 1)), r, rfl⟩, paBx_closed (q := tr0) (l := (IntKind.i64.wrap (n + 1))) (e := 8) (t := t) (h0 := true) (h1 := h1) (h2 := h2) (n := (IntKind.i64.wrap (n + 1))) (r := r)⟩
        | false =>
          have e : t0 = parseP suf (IntKind.i64.wrap (n + 1)) { t with code := codeI rest } true h1 h2 := by rw [hp, w1]; rfl
          repeat' (conv => whnf
                   first
                   | (refine And.intro (Or.inl (by kernel_rfl)) ?_)
                   | (refine And.intro (by kernel_rfl) ?_)
                   | (refine And.intro ⟨by kernel_rfl, by kernel_rfl⟩ ?_)
                   | (refine Or.inl ⟨_, n1, ?_⟩)
                   | (refine ⟨_, n1, ?_⟩)
                   | (refine Or.inl ⟨_, n2, ?_⟩)
                   | (refine ⟨_, n2, ?_⟩)
                   | (refine Or.inl ⟨_, n3, ?_⟩)
                   | (refine ⟨_, n3, ?_⟩)
                   | (refine Or.inr ⟨_, n4, ?_⟩)
                   | (refine ⟨f3, ?_⟩)
                   | (refine cond_f ?_ ?_)
                   | (refine ⟨_, ⟨by decide, rfl⟩, ?_⟩)
                   | (refine cond_i (fun h => ?_) (fun h => ?_)))
          all_goals (conv => whnf)
          exact ⟨⟨⟨{ t with code := codeI rest }, true, h1, h2, (IntKind.i64.wrap (n + 1)), r, rfl, wn, fun suf' hs => by rw [hgo suf' hs]; exact e⟩, rfl⟩, paBx_closed (q := tr0) (l := 0) (e := 0) (t := { t with code := codeI rest }) (h0 := true) (h1 := h1) (h2 := h2) (n := (IntKind.i64.wrap (n + 1))) (r := r)⟩
      · rw [hk] at n3 hp
        have n3 : Fv Try.prog 65 [.str (strL name)] (.int .i64 1) := n3
        have f3 : 0 ≤ (1 : Int) ∧ (1 : Int) < ((3 : Nat) : Int) := by decide
        have n4 : Fp Try.prog 66 [.ptr 0 0, .int .i64 1, .str (strL rest)] [t.g] [] (.tup [], [some [.int .i64 t.code, .str (strL (unqL rest)), .int .i64 t.push]], []) := hd_value1 (strL rest) t.code t.push t.msg (by rw [strL_size]; omega)
        cases h1 with
        | true =>
          have e : t0 = (tr0, IntKind.i64.wrap (n + 1), 8) := by rw [hp, w1]; rfl
          rw [e]
          repeat' (conv => whnf
                   first
                   | (refine And.intro (Or.inl (by kernel_rfl)) ?_)
                   | (refine And.intro (by kernel_rfl) ?_)
                   | (refine And.intro ⟨by kernel_rfl, by kernel_rfl⟩ ?_)
                   | (refine Or.inl ⟨_, n1, ?_⟩)
                   | (refine ⟨_, n1, ?_⟩)
                   | (refine Or.inl ⟨_, n2, ?_⟩)
                   | (refine ⟨_, n2, ?_⟩)
                   | (refine Or.inl ⟨_, n3, ?_⟩)
                   | (refine ⟨_, n3, ?_⟩)
                   | (refine Or.inr ⟨_, n4, ?_⟩)
                   | (refine ⟨f3, ?_⟩)
                   | (refine cond_f ?_ ?_)
                   | (refine ⟨_, ⟨by decide, rfl⟩, ?_⟩)
                   | (refine cond_i (fun h => ?_) (fun h => ?_)))
          all_goals (conv => whnf)
          exact ⟨⟨rfl, t, h0, true, h2, (IntKind.i64.wrap (n + 1)), r, rfl⟩, paBx_closed (q := tr0) (l := (IntKind.i64.wrap (n + 1))) (e := 8) (t := t) (h0 := h0) (h1 := true) (h2 := h2) (n := (IntKind.i64.wrap (n + 1))) (r := r)⟩
        | false =>
          have e : t0 = parseP suf (IntKind.i64.wrap (n + 1)) { t with msg := strL (unqL rest) } h0 true h2 := by rw [hp, w1]; rfl
          repeat' (conv => whnf
                   first
                   | (refine And.intro (Or.inl (by kernel_rfl)) ?_)
                   | (refine And.intro (by kernel_rfl) ?_)
                   | (refine And.intro ⟨by kernel_rfl, by kernel_rfl⟩ ?_)
                   | (refine Or.inl ⟨_, n1, ?_⟩)
                   | (refine ⟨_, n1, ?_⟩)
                   | (refine Or.inl ⟨_, n2, ?_⟩)
                   | (refine ⟨_, n2, ?_⟩)
                   | (refine Or.inl ⟨_, n3, ?_⟩)
                   | (refine ⟨_, n3, ?_⟩)
                   | (refine Or.inr ⟨_, n4, ?_⟩)
                   | (refine ⟨f3, ?_⟩)
                   | (refine cond_f ?_ ?_)
                   | (refine ⟨_, ⟨by decide, rfl⟩, ?_⟩)
                   | (refine cond_i (fun h => ?_) (fun h => ?_)))
          all_goals (conv => whnf)
          exact ⟨⟨⟨{ t with msg := strL (unqL rest) }, h0, true, h2, (IntKind.i64.wrap (n + 1)), r, rfl, wn, fun suf' hs => by rw [hgo suf' hs]; exact e⟩, rfl⟩, paBx_closed (q := tr0) (l := 0) (e := 0) (t := { t with msg := strL (unqL rest) }) (h0 := h0) (h1 := true) (h2 := h2) (n := (IntKind.i64.wrap (n + 1))) (r := r)⟩
      · rw [hk] at n3 hp
        have n3 : Fv Try.prog 65 [.str (strL name)] (.int .i64 2) := n3
        have f3 : 0 ≤ (2 : Int) ∧ (2 : Int) < ((3 : Nat) : Int) := by decide
        have n4 : Fp Try.prog 66 [.ptr 0 0, .int .i64 2, .str (strL rest)] [t.g] [] (.tup [], [some [.int .i64 t.code, .str t.msg, .int .i64 (numI rest 7)]], []) := hd_value2 (strL rest) t.code t.push t.msg
        cases h2 with
        | true =>
          have e : t0 = (tr0, IntKind.i64.wrap (n + 1), 8) := by rw [hp, w1]; rfl
          rw [e]
          repeat' (conv => whnf
                   first
                   | (refine And.intro (Or.inl (by kernel_rfl)) ?_)
                   | (refine And.intro (by kernel_rfl) ?_)
                   | (refine And.intro ⟨by kernel_rfl, by kernel_rfl⟩ ?_)
                   | (refine Or.inl ⟨_, n1, ?_⟩)
                   | (refine ⟨_, n1, ?_⟩)
                   | (refine Or.inl ⟨_, n2, ?_⟩)
                   | (refine ⟨_, n2, ?_⟩)
                   | (refine Or.inl ⟨_, n3, ?_⟩)
                   | (refine ⟨_, n3, ?_⟩)
                   | (refine Or.inr ⟨_, n4, ?_⟩)
                   | (refine ⟨f3, ?_⟩)
                   | (refine cond_f ?_ ?_)
                   | (refine ⟨_, ⟨by decide, rfl⟩, ?_⟩)
                   | (refine cond_i (fun h => ?_) (fun h => ?_)))
          all_goals (conv => whnf)
          exact ⟨⟨rfl, t, h0, h1, true, (IntKind.i64.wrap (n + 1)), r, rfl⟩, paBx_closed (q := tr0) (l := (IntKind.i64.wrap (n + 1))) (e := 8) (t := t) (h0 := h0) (h1 := h1) (h2 := true) (n := (IntKind.i64.wrap (n + 1))) (r := r)⟩
        | false =>
          have e : t0 = parseP suf (IntKind.i64.wrap (n + 1)) { t with push := numI rest 7 } h0 h1 true := by rw [hp, w1]; rfl
          repeat' (conv => whnf
                   first
                   | (refine And.intro (Or.inl (by kernel_rfl)) ?_)
                   | (refine And.intro (by kernel_rfl) ?_)
                   | (refine And.intro ⟨by kernel_rfl, by kernel_rfl⟩ ?_)
                   | (refine Or.inl ⟨_, n1, ?_⟩)
                   | (refine ⟨_, n1, ?_⟩)
                   | (refine Or.inl ⟨_, n2, ?_⟩)
                   | (refine ⟨_, n2, ?_⟩)
                   | (refine Or.inl ⟨_, n3, ?_⟩)
                   | (refine ⟨_, n3, ?_⟩)
                   | (refine Or.inr ⟨_, n4, ?_⟩)
                   | (refine ⟨f3, ?_⟩)
                   | (refine cond_f ?_ ?_)
                   | (refine ⟨_, ⟨by decide, rfl⟩, ?_⟩)
                   | (refine cond_i (fun h => ?_) (fun h => ?_)))
          all_goals (conv => whnf)
          exact ⟨⟨⟨{ t with push := numI rest 7 }, h0, h1, true, (IntKind.i64.wrap (n + 1)), r, rfl, wn, fun suf' hs => by rw [hgo suf' hs]; exact e⟩, rfl⟩, paBx_closed (q := tr0) (l := 0) (e := 0) (t := { t with push := numI rest 7 }) (h0 := h0) (h1 := h1) (h2 := true) (n := (IntKind.i64.wrap (n + 1))) (r := r)⟩
      · rw [hk] at n3 hp
        have n3 : Fv Try.prog 65 [.str (strL name)] (.int .i64 3) := n3
        have e : t0 = parseP suf (IntKind.i64.wrap (n + 1)) t h0 h1 h2 := by rw [hp, w1]; rfl
        repeat' (conv => whnf
                 first
                 | (refine And.intro (Or.inl (by kernel_rfl)) ?_)
                 | (refine And.intro (by kernel_rfl) ?_)
                 | (refine And.intro ⟨by kernel_rfl, by kernel_rfl⟩ ?_)
                 | (refine Or.inl ⟨_, n1, ?_⟩)
                 | (refine ⟨_, n1, ?_⟩)
                 | (refine Or.inl ⟨_, n2, ?_⟩)
                 | (refine ⟨_, n2, ?_⟩)
                 | (refine Or.inl ⟨_, n3, ?_⟩)
                 | (refine ⟨_, n3, ?_⟩)
                 | (refine cond_f ?_ ?_)
                 | (refine ⟨_, ⟨by decide, rfl⟩, ?_⟩)
                 | (refine cond_i (fun h => ?_) (fun h => ?_)))
        all_goals (conv => whnf)
        exact ⟨⟨⟨t, h0, h1, h2, (IntKind.i64.wrap (n + 1)), r, rfl, wn, fun suf' hs => by rw [hgo suf' hs]; exact e⟩, rfl⟩, paBx_closed (q := tr0) (l := 0) (e := 0) (t := t) (h0 := h0) (h1 := h1) (h2 := h2) (n := (IntKind.i64.wrap (n + 1))) (r := r)⟩
  · obtain ⟨t, h0, h1, h2, n, r, rfl, hn, hp⟩ := hI
    have hp := hp [] (by simp)
    rw [parseP] at hp
    rw [hp]
    have f3 : 0 ≤ (0 : Int) ∧ (0 : Int) < ((3 : Nat) : Int) := by decide
    cases h0 with
    | true =>
      repeat' (conv => whnf
               first
               | (refine And.intro (Or.inl (by kernel_rfl)) ?_)
               | (refine And.intro (by kernel_rfl) ?_)
               | (refine And.intro ⟨by kernel_rfl, by kernel_rfl⟩ ?_)
               | (refine ⟨f3, ?_⟩)
               | (refine cond_f ?_ ?_)
               | (refine ⟨_, ⟨by decide, rfl⟩, ?_⟩)
               | (refine cond_i (fun h => ?_) (fun h => ?_)))
      all_goals (conv => whnf)
      all_goals rfl
    | false =>
      repeat' (conv => whnf
               first
               | (refine And.intro (Or.inl (by kernel_rfl)) ?_)
               | (refine And.intro (by kernel_rfl) ?_)
               | (refine And.intro ⟨by kernel_rfl, by kernel_rfl⟩ ?_)
               | (refine ⟨f3, ?_⟩)
               | (refine cond_f ?_ ?_)
               | (refine ⟨_, ⟨by decide, rfl⟩, ?_⟩)
               | (refine cond_i (fun h => ?_) (fun h => ?_)))
      all_goals (conv => whnf)
      all_goals rfl
  · obtain ⟨rfl, t, h0, h1, h2, n, r, rfl⟩ := hX
    repeat' (conv => whnf
             first
             | (refine And.intro (Or.inl (by kernel_rfl)) ?_)
             | (refine And.intro (by kernel_rfl) ?_)
             | (refine And.intro ⟨by kernel_rfl, by kernel_rfl⟩ ?_)
             | (refine cond_f ?_ ?_)
             | (refine ⟨_, ⟨by decide, rfl⟩, ?_⟩)
             | (refine cond_i (fun h => ?_) (fun h => ?_)))
    all_goals (conv => whnf)
    all_goals rfl
end Go.Proofs.Ytijohhdgecadnaa.Cn
namespace Go.Proofs.Ytijohhdgecadnaa.Cn
open Go Go.Proofs Go.Proofs.Ytijohhdgecadnaa.Av Go.Proofs.Ytijohhdgecadnaa.Sp Go.RowKit
set_option linter.unusedVariables false
set_option linter.unusedSimpArgs false
set_option linter.unusedSectionVars false
set_option maxRecDepth 100000
attribute [local irreducible] Fv Fp

theorem u8_one {l : List UInt8} (h : l.length ≤ 100000000) : 0 + l.length ≤ (bldR l).length ∧ (0 < l.length + 1 ∨ bldR l = []) ∧ fitsB Try.prog 5 (l.length + 1) ∧ ∀ r ∈ bldR l, r.length = Try.prog.cellsOf 5 := by
  refine ⟨by simp [bldR], .inl (by omega), by unfold fitsB; rw [u8b]; omega, fun r hr => by obtain ⟨x, _, rfl⟩ := List.mem_map.1 hr; rw [u8c]; rfl⟩
theorem u8_snoc (l : List UInt8) (c : UInt8) : ((bldR l).drop 0).take l.length ++ [[G.int .u8 (c.toNat : Int)]] = bldR (l ++ [c]) := by
  unfold bldR; rw [List.drop_zero, List.map_append, List.take_of_length_le (by simp)]; rfl
theorem hexI_iff (c : Int) : hexI c ≥ 0 ↔ nibN c.toNat < 16 := by
  unfold hexI
  split
  · constructor
    · intro _; assumption
    · intro _; omega
  · constructor
    · intro h; omega
    · intro h; omega
theorem hexI_val {c : Int} (h : nibN c.toNat < 16) : hexI c = (nibN c.toNat : Nat) := by unfold hexI; rw [if_pos h]
set_option maxHeartbeats 8000000 in
theorem r37_Unquote (s : ByteArray) (h : s.size ≤ 1000000) : Fv Try.prog 46 [.str s] (.str (strL (unqL s.data.toList))) := by
  have hall : (unqL s.data.toList).length ≤ s.size := by rw [← size_list]; exact unqL_len _ _
  refine Fv.of_awp Try.func46 rfl (by kernel_rfl) rfl (Nat.le_of_ble_eq_true rfl) ?_
  repeat' (conv => whnf
           first
           | (refine And.intro (Or.inl (by kernel_rfl)) ?_)
           | (refine And.intro (by kernel_rfl) ?_)
           | (refine And.intro ⟨by kernel_rfl, by kernel_rfl⟩ ?_)
           | (refine cond_f ?_ ?_)
           | (refine ⟨_, ⟨by decide, rfl⟩, ?_⟩)
           | (refine cond_i (fun h => ?_) (fun h => ?_)))
  all_goals (conv => whnf)
  refine Has.own0 3 68 rfl rfl ?_
  refine Has.each [0, 3, 4, 5] [] s.size (fun k (b : Nat × List UInt8) => k + b.1 ≤ s.size ∧ b.1 ≤ 2 ∧ b.2 ++ unqL (s.data.toList.drop (k + b.1)) = unqL s.data.toList) (fun b i =>
    St.of 67 [(0, .str s), (3, .own 68 0 b.2.length), (4, .int .i64 (b.1 : Nat)), (5, .int .i64 i)] [] [(68, bldR b.2)]) ⟨(0, []), 0, rfl, ⟨by omega, by omega, by simp⟩, rfl⟩ (fun i b hlt hI => ?_) (fun b hI => ?_)
  · obtain ⟨k, out⟩ := b
    obtain ⟨hk1, hk2, hu⟩ := hI
    simp only at *
    have hout : out.length ≤ 1000000 := by have := congrArg List.length hu; rw [List.length_append] at this; omega
    have b0 : decide ((i : Int) < (s.size : Int)) = true := decide_eq_true (by omega)
    have w1 : IntKind.i64.wrap ((i : Int) + 1) = (i : Int) + 1 := wrap_i64 (by omega)
    by_cases hk : k = 0
    · subst hk
      rw [Nat.add_zero] at hu
      have b1 : decide (((0 : Nat) : Int) > 0) = false := by decide
      have f0 : 0 ≤ (i : Int) ∧ (i : Int) < (s.size : Int) := by omega
      have w2 : IntKind.i64.wrap ((i : Int) + 2) = (i : Int) + 2 := wrap_i64 (by omega)
      have w3 : IntKind.i64.wrap ((s.size : Int) - (i : Int)) = (s.size : Int) - (i : Int) := wrap_i64 (by omega)
      have hd1 : (IntKind.i64.wrap ((i : Int) + 1)).toNat = i + 1 := by rw [w1]; omega
      have hd2 : (IntKind.i64.wrap ((i : Int) + 2)).toNat = i + 2 := by rw [w2]; omega
      have n1 := r37_hex (byteAt s (IntKind.i64.wrap ((i : Int) + 1)).toNat) (byteAt_bd _ _)
      have n2 := r37_hex (byteAt s (IntKind.i64.wrap ((i : Int) + 2)).toNat) (byteAt_bd _ _)
      have f1 : decide (IntKind.i64.wrap ((s.size : Int) - (i : Int)) > 2) = true → 0 ≤ IntKind.i64.wrap ((i : Int) + 1) ∧ IntKind.i64.wrap ((i : Int) + 1) < (s.size : Int) := fun e => by
        have := of_decide_eq_true e; rw [w3] at this; rw [w1]; omega
      have f2 : decide (IntKind.i64.wrap ((s.size : Int) - (i : Int)) > 2) = true → 0 ≤ IntKind.i64.wrap ((i : Int) + 2) ∧ IntKind.i64.wrap ((i : Int) + 2) < (s.size : Int) := fun e => by
        have := of_decide_eq_true e; rw [w3] at this; rw [w2]; omega
      have hQ := isQ_at s i
      rw [← hd1, ← hd2] at hQ
      have a0 := u8_one (l := out) (by omega)
      cases hq : isQ (s.data.toList.drop i) with
      | true =>
        have hq' := hq
        rw [hQ] at hq'
        obtain ⟨c1, c2, c3, c4⟩ := of_decide_eq_true hq'
        have t1 : (byteAt s i == 37) = true := by simpa using c1
        have t2 : decide (IntKind.i64.wrap ((s.size : Int) - (i : Int)) > 2) = true := decide_eq_true (by rw [w3]; omega)
        have t3 : decide (hexI (byteAt s (IntKind.i64.wrap ((i : Int) + 1)).toNat) ≥ 0) = true := decide_eq_true ((hexI_iff _).2 c3)
        have t4 : decide (hexI (byteAt s (IntKind.i64.wrap ((i : Int) + 2)).toNat) ≥ 0) = true := decide_eq_true ((hexI_iff _).2 c4)
        have f1 := f1 t2
        have f2 := f2 t2
        have hv : IntKind.u8.wrap (IntKind.i64.wrap (IntKind.i64.wrap (16 * hexI (byteAt s (IntKind.i64.wrap ((i : Int) + 1)).toNat)) + hexI (byteAt s (IntKind.i64.wrap ((i : Int) + 2)).toNat))) = ((qByte (s.data.toList.drop i)).toNat : Int) := by
          rw [← qByte_at s i hq, ← hd1, ← hd2, hexI_val c3, hexI_val c4]
          have := qE_eq ⟨_, c3⟩ ⟨_, c4⟩
          simp only at this
          rw [this, wrap_i64 (n := 16 * _) (by omega), wrap_i64 (by omega), wrap_u8m]
          omega
        have eT : (out ++ [qByte (s.data.toList.drop i)]) ++ unqL (s.data.toList.drop (i + 1 + 2)) = unqL s.data.toList := by
          rw [← hu, unqL_q hq, List.drop_drop, List.append_assoc]; rfl
        refine awp_go ?_
        repeat' (conv => whnf
                 first
                 | (refine And.intro (Or.inl (by kernel_rfl)) ?_)
                 | (refine And.intro (by kernel_rfl) ?_)
                 | (refine And.intro ⟨by kernel_rfl, by kernel_rfl⟩ ?_)
                 | (refine cond_1 b0 ?_)
                 | (refine cond_0 b1 ?_)
                 | (refine ⟨f0, ?_⟩)
                 | (refine cond_1 t1 ?_)
                 | (refine cond_1 t2 ?_)
                 | (refine ⟨f1, ?_⟩)
                 | (refine Or.inl ⟨_, n1, ?_⟩)
                 | (refine ⟨_, n1, ?_⟩)
                 | (refine cond_1 t3 ?_)
                 | (refine ⟨f2, ?_⟩)
                 | (refine Or.inl ⟨_, n2, ?_⟩)
                 | (refine ⟨_, n2, ?_⟩)
                 | (refine cond_1 t4 ?_)
                 | (refine ⟨a0, ?_⟩)
                 | (refine cond_f ?_ ?_)
                 | (refine ⟨_, ⟨by decide, rfl⟩, ?_⟩)
                 | (refine cond_i (fun h => ?_) (fun h => ?_)))
        all_goals (conv => whnf)
        refine ⟨(2, out ++ [qByte (s.data.toList.drop i)]), _, ?_, ⟨by omega, by omega, eT⟩, w1⟩
        rw [← u8_snoc, List.length_append, ← hv]
        rfl
      | false =>
        have tF : (byteAt s i == 37) = true → decide (IntKind.i64.wrap ((s.size : Int) - (i : Int)) > 2) = true → decide (hexI (byteAt s (IntKind.i64.wrap ((i : Int) + 1)).toNat) ≥ 0) = true → decide (hexI (byteAt s (IntKind.i64.wrap ((i : Int) + 2)).toNat) ≥ 0) = true → False := fun d1 d2 d3 d4 => by
          rw [hQ] at hq
          have d2 := of_decide_eq_true d2
          rw [w3] at d2
          exact of_decide_eq_false hq ⟨by simpa using d1, by omega, (hexI_iff _).1 (of_decide_eq_true d3), (hexI_iff _).1 (of_decide_eq_true d4)⟩
        have eF : (out ++ [s.data.toList.getD i 0]) ++ unqL (s.data.toList.drop (i + 1 + 0)) = unqL s.data.toList := by
          have e2 := drop_cons s hlt
          rw [← hu, e2, unqL_c (by rw [← e2]; exact hq), List.append_assoc]; rfl
        refine awp_go ?_
        repeat' (conv => whnf
                 first
                 | (refine And.intro (Or.inl (by kernel_rfl)) ?_)
                 | (refine And.intro (by kernel_rfl) ?_)
                 | (refine And.intro ⟨by kernel_rfl, by kernel_rfl⟩ ?_)
                 | (refine cond_1 b0 ?_)
                 | (refine cond_0 b1 ?_)
                 | (refine ⟨f0, ?_⟩)
                 | (refine ⟨f1 (by assumption), ?_⟩)
                 | (refine Or.inl ⟨_, n1, ?_⟩)
                 | (refine ⟨_, n1, ?_⟩)
                 | (refine ⟨f2 (by assumption), ?_⟩)
                 | (refine Or.inl ⟨_, n2, ?_⟩)
                 | (refine ⟨_, n2, ?_⟩)
                 | (refine ⟨a0, ?_⟩)
                 | (refine cond_f ?_ ?_)
                 | (refine ⟨_, ⟨by decide, rfl⟩, ?_⟩)
                 | (refine cond_i (fun h => ?_) (fun h => ?_)))
        all_goals (conv => whnf)
        all_goals first
          | (exfalso; exact tF (by assumption) (by assumption) (by assumption) (by assumption))
          | (refine ⟨(0, out ++ [s.data.toList.getD i 0]), _, ?_, ⟨by omega, by omega, eF⟩, w1⟩
             rw [← u8_snoc, List.length_append]
             rfl)
    · have b1 : decide ((k : Int) > 0) = true := decide_eq_true (by omega)
      have w4 : IntKind.i64.wrap ((k : Int) - 1) = ((k - 1 : Nat) : Int) := by rw [wrap_i64 (by omega)]; omega
      refine awp_go ?_
      repeat' (conv => whnf
               first
               | (refine And.intro (Or.inl (by kernel_rfl)) ?_)
               | (refine And.intro (by kernel_rfl) ?_)
               | (refine And.intro ⟨by kernel_rfl, by kernel_rfl⟩ ?_)
               | (refine cond_1 b0 ?_)
               | (refine cond_1 b1 ?_)
               | (refine cond_f ?_ ?_)
               | (refine ⟨_, ⟨by decide, rfl⟩, ?_⟩)
               | (refine cond_i (fun h => ?_) (fun h => ?_)))
      all_goals (conv => whnf)
      refine ⟨(k - 1, out), _, ?_, ⟨by omega, by omega, by rw [show i + 1 + (k - 1) = i + k from by omega]; exact hu⟩, w1⟩
      rw [← w4]
      rfl
  · obtain ⟨k, out⟩ := b
    obtain ⟨hk1, hk2, hu⟩ := hI
    simp only at *
    obtain rfl : k = 0 := by omega
    rw [Nat.add_zero, show s.data.toList.drop s.size = [] from List.drop_eq_nil_of_le (by rw [size_list]; omega), unqL_nil, List.append_nil] at hu
    have b0 : decide ((s.size : Int) < (s.size : Int)) = false := decide_eq_false (by omega)
    have g1 : 0 + out.length ≤ (bldR out).length := by simp [bldR]
    have g2 : ((bldR out).drop 0).take out.length = bldR out := by rw [List.drop_zero, List.take_of_length_le (by simp [bldR])]
    have g3 : bldR out = out.map (fun b => [G.int .u8 b.toNat]) := rfl
    rw [← hu]
    refine awp_go ?_
    repeat' (conv => whnf
             first
             | (refine And.intro (Or.inl (by kernel_rfl)) ?_)
             | (refine And.intro (by kernel_rfl) ?_)
             | (refine And.intro ⟨by kernel_rfl, by kernel_rfl⟩ ?_)
             | (refine cond_0 b0 ?_)
             | (refine ⟨g1, ?_⟩)
             | (rw [g2])
             | (refine ⟨_, g3, ?_⟩)
             | (refine cond_f ?_ ?_)
             | (refine ⟨_, ⟨by decide, rfl⟩, ?_⟩)
             | (refine cond_i (fun h => ?_) (fun h => ?_)))
    all_goals (conv => whnf)
    all_goals rfl
end Go.Proofs.Ytijohhdgecadnaa.Cn
namespace Go.Proofs.Ytijohhdgecadnaa.Sp
open Go Go.Proofs.Ytijohhdgecadnaa.Av
set_option linter.unusedVariables false

theorem linesL_hit : ∀ (a r : List UInt8), (∀ b ∈ a, b ≠ 10) → linesL (a ++ 10 :: r) = (a ++ [10]) :: linesL r
  | [], r, _ => by rw [List.nil_append, linesL, if_pos rfl]; rfl
  | c :: a, r, h => by
    rw [List.cons_append, linesL, if_neg (h c (by simp)), linesL_hit a r (fun b hb => h b (by simp [hb]))]; rfl
theorem linesL_miss : ∀ (a : List UInt8), (∀ b ∈ a, b ≠ 10) → a ≠ [] → linesL a = [a]
  | [], _, h => absurd rfl h
  | c :: a, h, _ => by
    rw [linesL, if_neg (h c (by simp))]
    cases a with
    | nil => rfl
    | cons d a => rw [linesL_miss (d :: a) (fun b hb => h b (by simp [hb])) (by simp)]
theorem trim_hit (a : List UInt8) : Lib.trimSuffix (a ++ [10]) [10] = a := by
  unfold Lib.trimSuffix Lib.hasSuffix
  rw [if_pos (List.isSuffixOf_iff_suffix.2 ⟨a, rfl⟩)]
  simp
theorem trim_miss (a : List UInt8) (h : ∀ b ∈ a, b ≠ 10) : Lib.trimSuffix a [10] = a := by
  unfold Lib.trimSuffix Lib.hasSuffix
  rw [if_neg]
  intro e
  obtain ⟨t, ht⟩ := List.isSuffixOf_iff_suffix.1 e
  exact h 10 (by rw [← ht]; simp) rfl
/-- Lines without their ends. -/
def lnL (l : List UInt8) : List (List UInt8) := (linesL l).map (Lib.trimSuffix · [10])
theorem lnL_hit (a r : List UInt8) (h : ∀ b ∈ a, b ≠ 10) : lnL (a ++ 10 :: r) = a :: lnL r := by unfold lnL; rw [linesL_hit a r h, List.map_cons, trim_hit]
theorem lnL_miss (a : List UInt8) (h : ∀ b ∈ a, b ≠ 10) (h0 : a ≠ []) : lnL a = [a] := by unfold lnL; rw [linesL_miss a h h0, List.map_cons, trim_miss a h]; rfl
theorem lnL_eq (s : ByteArray) : (linesB s).map trimL = lnL s.data.toList := by
  unfold linesB lnL trimL; rw [List.map_map]; rfl

def tab17 (c : Nat) : List UInt8 := if c < 10 then [UInt8.ofNat (48 + c)] else [49, UInt8.ofNat (38 + c)]
theorem tab17_eq {c : Nat} (h : c < 17) : Lib.decDigits c = tab17 c := by
  by_cases h1 : c < 10
  · rw [Lib.decDigits, dif_pos h1]; unfold tab17; rw [if_pos h1]
  · rw [Lib.decDigits, dif_neg h1, Lib.decDigits, dif_pos (by omega)]
    unfold tab17
    rw [if_neg h1, show c / 10 = 1 from by omega, show 48 + c % 10 = 38 + c from by omega]
    rfl
/-- A code by its digits. -/
def codeR (l : List UInt8) : Int := match (List.range 17).find? (fun c => tab17 c == l) with | some c => (c : Nat) | none => 2
theorem digs1 : ∀ a : Fin 10, codeI [UInt8.ofNat (48 + a.val)] = codeR [UInt8.ofNat (48 + a.val)] := by decide +kernel
theorem digs2 : ∀ a b : Fin 10, codeI [UInt8.ofNat (48 + a.val), UInt8.ofNat (48 + b.val)] = codeR [UInt8.ofNat (48 + a.val), UInt8.ofNat (48 + b.val)] := by decide +kernel
theorem dec17 : ∀ c : Fin 17, (tab17 c.val).all isDig = true ∧ (tab17 c.val).length ≤ 2 ∧ tab17 c.val ≠ [] := by decide +kernel
theorem dig_of {c : UInt8} (h : isDig c = true) : ∃ a : Fin 10, c = UInt8.ofNat (48 + a.val) := by
  have := of_decide_eq_true h
  exact ⟨⟨c.toNat - 48, by omega⟩, by simp only; rw [show 48 + (c.toNat - 48) = c.toNat from by omega]; simp⟩
theorem codeI_eq (l : List UInt8) : codeI l = codeR l := by
  by_cases hg : l.all isDig = true ∧ l.length ≤ 2 ∧ l ≠ []
  · obtain ⟨h1, h2, h3⟩ := hg
    match l, h2, h3 with
    | [a], _, _ =>
      simp only [List.all_cons, List.all_nil, Bool.and_true] at h1
      obtain ⟨x, rfl⟩ := dig_of h1
      exact digs1 x
    | [a, b], _, _ =>
      simp only [List.all_cons, List.all_nil, Bool.and_true, Bool.and_eq_true] at h1
      obtain ⟨x, rfl⟩ := dig_of h1.1
      obtain ⟨y, rfl⟩ := dig_of h1.2
      exact digs2 x y
  · have e1 : numI l 2 = -1 := by
      unfold numI
      rw [if_pos]
      by_cases h3 : l = []
      · exact .inl h3
      · by_cases h2 : l.length ≤ 2
        · refine .inr (.inr ?_)
          cases hx : l.all isDig with
          | false => rfl
          | true => exact absurd ⟨hx, h2, h3⟩ hg
        · exact .inr (.inl (by omega))
    have e2 : (List.range 17).find? (fun c => tab17 c == l) = none := by
      rw [List.find?_eq_none]
      intro c hc he
      have hc' : c < 17 := List.mem_range.1 hc
      have he' : tab17 c = l := by simpa using he
      have := dec17 ⟨c, hc'⟩
      simp only [he'] at this
      exact hg this
    unfold codeI codeR
    rw [e1, e2]
    rfl
end Go.Proofs.Ytijohhdgecadnaa.Sp
namespace Go.Proofs.Ytijohhdgecadnaa.Cn
open Go Go.Proofs Go.Proofs.Ytijohhdgecadnaa.Av Go.Proofs.Ytijohhdgecadnaa.Sp Go.RowKit
set_option linter.unusedVariables false
set_option linter.unusedSimpArgs false
set_option linter.unusedSectionVars false
set_option maxRecDepth 100000
attribute [local irreducible] Fv Fp

def strR (x : List UInt8) : List G := [.str (strL x)]
theorem str_one {l : List (List UInt8)} (h : l.length ≤ 1000000) : 0 + l.length ≤ (l.map strR).length ∧ (0 < l.length + 1 ∨ l.map strR = []) ∧ fitsB Try.prog 9 (l.length + 1) ∧ ∀ r ∈ l.map strR, r.length = Try.prog.cellsOf 9 := by
  refine ⟨by simp, .inl (by omega), by unfold fitsB; rw [show Try.prog.bytesOf 9 = 16 from by kernel_rfl]; omega, fun r hr => by obtain ⟨x, _, rfl⟩ := List.mem_map.1 hr; rw [show Try.prog.cellsOf 9 = 1 from by kernel_rfl]; rfl⟩
theorem str_snoc (l : List (List UInt8)) (x : List UInt8) : ((l.map strR).drop 0).take l.length ++ [[G.str (strL x)]] = (l ++ [x]).map strR := by
  rw [List.drop_zero, List.map_append, List.take_of_length_le (by simp)]; rfl
theorem ext_slice (s : ByteArray) (a b : Nat) : s.extract a b = strL ((s.data.toList.take b).drop a) := by rw [← ext_take, strL_eq]
set_option maxHeartbeats 8000000 in
theorem r29_Lines (s : ByteArray) (h : s.size ≤ 1000000) : Fv Try.prog 67 [.str s] (.sl ((lnL s.data.toList).map strR)) := by
  refine Fv.of_awp Try.func67 rfl (by kernel_rfl) rfl (Nat.le_of_ble_eq_true rfl) ?_
  repeat' (conv => whnf
           first
           | (refine And.intro (Or.inl (by kernel_rfl)) ?_)
           | (refine And.intro (by kernel_rfl) ?_)
           | (refine And.intro ⟨by kernel_rfl, by kernel_rfl⟩ ?_)
           | (refine cond_f ?_ ?_)
           | (refine ⟨_, ⟨by decide, rfl⟩, ?_⟩)
           | (refine cond_i (fun h => ?_) (fun h => ?_)))
  all_goals (conv => whnf)
  refine Has.own0 3 40 rfl rfl ?_
  refine Has.each [0, 3, 4, 5] [] s.size (fun k (b : Nat × List (List UInt8)) => b.1 ≤ k ∧ b.2.length ≤ k ∧ lnL s.data.toList = b.2 ++ lnL (s.data.toList.drop b.1) ∧ ∀ c ∈ (s.data.toList.take k).drop b.1, c ≠ 10) (fun b i =>
    St.of 36 [(0, .str s), (3, .own 40 0 b.2.length), (4, .int .i64 (b.1 : Nat)), (5, .int .i64 i)] [] [(40, b.2.map strR)]) ⟨(0, []), 0, rfl, ⟨by omega, by simp, by simp, by simp⟩, rfl⟩ (fun k b hk hI => ?_) (fun b hI => ?_)
  · obtain ⟨from', out⟩ := b
    obtain ⟨h1, h2, h3, h4⟩ := hI
    simp only at *
    have hl : k < s.data.toList.length := by rw [size_list]; exact hk
    have b0 : decide ((k : Int) < (s.size : Int)) = true := decide_eq_true (by omega)
    have f0 : 0 ≤ (k : Int) ∧ (k : Int) < (s.size : Int) := by omega
    have w1 : IntKind.i64.wrap ((k : Int) + 1) = (k : Int) + 1 := wrap_i64 (by omega)
    have w1' : ((k + 1 : Nat) : Int) = IntKind.i64.wrap ((k : Int) + 1) := by rw [w1]; rfl
    have hT : s.data.toList.take (k + 1) = s.data.toList.take k ++ [s.data.toList.getD k 0] := by
      rw [List.take_add_one, List.getD_eq_getElem?_getD, List.getElem?_eq_getElem hl]; rfl
    have hc : byteAt s k = ((s.data.toList.getD k 0).toNat : Int) := rfl
    obtain ⟨c, hcc⟩ : ∃ c, s.data.toList.getD k 0 = c := ⟨_, rfl⟩
    rw [hcc] at hT hc
    have a1 := str_one (l := out) (by omega)
    have f1 : 0 ≤ ((from' : Nat) : Int) ∧ ((from' : Nat) : Int) ≤ (k : Int) ∧ (k : Int) ≤ (s.size : Int) := by omega
    by_cases h10 : c = 10
    · have t1 : (byteAt s k == 10) = true := by rw [hc, h10]; rfl
      refine awp_go ?_
      repeat' (conv => whnf
               first
               | (refine And.intro (Or.inl (by kernel_rfl)) ?_)
               | (refine And.intro (by kernel_rfl) ?_)
               | (refine And.intro ⟨by kernel_rfl, by kernel_rfl⟩ ?_)
               | (refine cond_1 b0 ?_)
               | (refine ⟨f0, ?_⟩)
               | (refine cond_1 t1 ?_)
               | (refine ⟨f1, ?_⟩)
               | (refine ⟨a1, ?_⟩)
               | (refine cond_f ?_ ?_)
               | (refine ⟨_, ⟨by decide, rfl⟩, ?_⟩)
               | (refine cond_i (fun h => ?_) (fun h => ?_)))
      all_goals (conv => whnf)
      refine ⟨(k + 1, out ++ [(s.data.toList.take k).drop from']), _, ?_, ⟨by omega, by simp; omega, ?_, ?_⟩, w1⟩
      · rw [← str_snoc, ← ext_slice, List.length_append, w1']
        rfl
      · have e : s.data.toList.drop from' = (s.data.toList.take k).drop from' ++ 10 :: s.data.toList.drop (k + 1) := by
          have e2 : s.data.toList = s.data.toList.take (k + 1) ++ s.data.toList.drop (k + 1) := (List.take_append_drop _ _).symm
          rw [hT, h10] at e2
          conv => lhs; rw [e2]
          rw [List.append_assoc, List.drop_append_of_le_length (by rw [List.length_take]; omega)]
          rfl
        rw [h3, e, lnL_hit _ _ h4, List.append_assoc]; rfl
      · intro b hb
        rw [List.drop_eq_nil_of_le (by rw [List.length_take]; omega)] at hb
        cases hb
    · have t1 : (byteAt s k == 10) = false := by
        rw [hc]
        simp only [beq_eq_false_iff_ne, ne_eq]
        intro e
        exact h10 (UInt8.toNat_inj.1 (by have : (10 : UInt8).toNat = 10 := rfl; omega))
      refine awp_go ?_
      repeat' (conv => whnf
               first
               | (refine And.intro (Or.inl (by kernel_rfl)) ?_)
               | (refine And.intro (by kernel_rfl) ?_)
               | (refine And.intro ⟨by kernel_rfl, by kernel_rfl⟩ ?_)
               | (refine cond_1 b0 ?_)
               | (refine ⟨f0, ?_⟩)
               | (refine cond_0 t1 ?_)
               | (refine cond_f ?_ ?_)
               | (refine ⟨_, ⟨by decide, rfl⟩, ?_⟩)
               | (refine cond_i (fun h => ?_) (fun h => ?_)))
      all_goals (conv => whnf)
      refine ⟨(from', out), _, rfl, ⟨by show from' ≤ k + 1; omega, by show out.length ≤ k + 1; omega, h3, fun b hb => ?_⟩, w1⟩
      rw [hT, List.drop_append_of_le_length (by rw [List.length_take]; omega)] at hb
      rcases List.mem_append.1 hb with hb | hb
      · exact h4 b hb
      · simp only [List.mem_singleton] at hb; rw [hb]; exact h10
  · obtain ⟨from', out⟩ := b
    obtain ⟨h1, h2, h3, h4⟩ := hI
    simp only at *
    rw [show s.data.toList.take s.size = s.data.toList from by rw [← size_list, List.take_length]] at h4
    have b0 : decide ((s.size : Int) < (s.size : Int)) = false := decide_eq_false (by omega)
    by_cases hf : from' < s.size
    · have t1 : decide (((from' : Nat) : Int) < (s.size : Int)) = true := decide_eq_true (by omega)
      have a1 := str_one (l := out) (by omega)
      have f1 : 0 ≤ ((from' : Nat) : Int) ∧ ((from' : Nat) : Int) ≤ (s.size : Int) ∧ (s.size : Int) ≤ (s.size : Int) := by omega
      have hne : s.data.toList.drop from' ≠ [] := fun e => by have := congrArg List.length e; rw [List.length_drop, size_list] at this; simp at this; omega
      rw [lnL_miss _ h4 hne] at h3
      have e4 : s.extract from' s.size = strL (s.data.toList.drop from') := by rw [ext_slice, ← size_list, List.take_length]
      have e5 : ((out.map strR).drop 0).take out.length ++ [[G.str (s.extract (Int.toNat ((from' : Nat) : Int)) s.size)]] = (lnL s.data.toList).map strR := by
        rw [Int.toNat_natCast, e4, str_snoc, ← h3]
      have hlen : (lnL s.data.toList).length = out.length + 1 := by rw [h3]; simp
      have g1 : 0 + (out.length + [[G.str (s.extract (Int.toNat ((from' : Nat) : Int)) s.size)]].length) ≤ (((out.map strR).drop 0).take out.length ++ [[G.str (s.extract (Int.toNat ((from' : Nat) : Int)) s.size)]]).length := by
        rw [e5, List.length_map, hlen]; simp
      have g2 : ((((out.map strR).drop 0).take out.length ++ [[G.str (s.extract (Int.toNat ((from' : Nat) : Int)) s.size)]]).drop 0).take (out.length + [[G.str (s.extract (Int.toNat ((from' : Nat) : Int)) s.size)]].length) = (lnL s.data.toList).map strR := by
        rw [e5, List.drop_zero, List.take_of_length_le (by rw [List.length_map, hlen]; simp)]
      refine awp_go ?_
      repeat' (conv => whnf
               first
               | (refine And.intro (Or.inl (by kernel_rfl)) ?_)
               | (refine And.intro (by kernel_rfl) ?_)
               | (refine And.intro ⟨by kernel_rfl, by kernel_rfl⟩ ?_)
               | (refine cond_0 b0 ?_)
               | (refine cond_1 t1 ?_)
               | (refine ⟨f1, ?_⟩)
               | (refine ⟨a1, ?_⟩)
               | (refine ⟨g1, ?_⟩)
               | (refine cond_f ?_ ?_)
               | (refine ⟨_, ⟨by decide, rfl⟩, ?_⟩)
               | (refine cond_i (fun h => ?_) (fun h => ?_)))
      all_goals (conv => whnf)
      all_goals exact congrArg G.sl g2
    · have t1 : decide (((from' : Nat) : Int) < (s.size : Int)) = false := decide_eq_false (by omega)
      rw [List.drop_eq_nil_of_le (by rw [size_list]; omega)] at h3
      have h3 : lnL s.data.toList = out := by rw [h3]; simp [lnL, linesL]
      have g1 : 0 + out.length ≤ (out.map strR).length := by simp
      have g2 : ((out.map strR).drop 0).take out.length = out.map strR := by rw [List.drop_zero, List.take_of_length_le (by simp)]
      rw [h3]
      refine awp_go ?_
      repeat' (conv => whnf
               first
               | (refine And.intro (Or.inl (by kernel_rfl)) ?_)
               | (refine And.intro (by kernel_rfl) ?_)
               | (refine And.intro ⟨by kernel_rfl, by kernel_rfl⟩ ?_)
               | (refine cond_0 b0 ?_)
               | (refine cond_0 t1 ?_)
               | (refine ⟨g1, ?_⟩)
               | (refine cond_f ?_ ?_)
               | (refine ⟨_, ⟨by decide, rfl⟩, ?_⟩)
               | (refine cond_i (fun h => ?_) (fun h => ?_)))
      all_goals (conv => whnf)
      all_goals exact congrArg G.sl g2
def colS : List UInt8 := [58, 32]
theorem occ_at (s : ByteArray) (j : Nat) (h : j + 1 < s.size) : Lib.occAt s.data.toList colS j = decide (byteAt s j = 58 ∧ byteAt s (j + 1) = 32) := by
  unfold Lib.occAt colS
  rw [drop_cons s (by omega), drop_cons s (show j + 1 < s.size from h)]
  have e1 : byteAt s j = ((s.data.toList.getD j 0).toNat : Int) := rfl
  have e2 : byteAt s (j + 1) = ((s.data.toList.getD (j + 1) 0).toNat : Int) := rfl
  rw [e1, e2]
  generalize s.data.toList.getD j 0 = a
  generalize s.data.toList.getD (j + 1) 0 = b
  have h1 : ∀ (x y : UInt8), (x == y) = decide ((y.toNat : Int) = (x.toNat : Int)) := fun x y => by
    by_cases e : x = y
    · subst e; simp
    · have : ¬ ((y.toNat : Int) = (x.toNat : Int)) := fun e' => e (UInt8.toNat_inj.1 (by omega))
      simp [e, this]
  simp only [List.isPrefixOf, h1, Bool.and_true, show ((58 : UInt8).toNat : Int) = 58 from rfl, show ((32 : UInt8).toNat : Int) = 32 from rfl]
  by_cases p : (a.toNat : Int) = 58 <;> by_cases q : (b.toNat : Int) = 32 <;> simp [p, q]
theorem occ_end (s : ByteArray) (j : Nat) (h : ¬ j + 1 < s.size) : Lib.occAt s.data.toList colS j = false := by
  unfold Lib.occAt colS
  have hl : (s.data.toList.drop j).length ≤ 1 := by rw [List.length_drop, size_list]; omega
  match hd : s.data.toList.drop j, hl with
  | [], _ => rfl
  | [a], _ => simp [List.isPrefixOf]
theorem r37_cut (s : ByteArray) (h : s.size ≤ 1000000) : Fv Try.prog 68 [.str s] (.int .i64 (Lib.index s.data.toList colS)) := by
  refine Fv.of_awp Try.func68 rfl (by kernel_rfl) rfl (Nat.le_of_ble_eq_true rfl) ?_
  repeat' (conv => whnf
           first
           | (refine And.intro (Or.inl (by kernel_rfl)) ?_)
           | (refine And.intro (by kernel_rfl) ?_)
           | (refine And.intro ⟨by kernel_rfl, by kernel_rfl⟩ ?_)
           | (refine cond_f ?_ ?_)
           | (refine ⟨_, ⟨by decide, rfl⟩, ?_⟩)
           | (refine cond_i (fun h => ?_) (fun h => ?_)))
  all_goals (conv => whnf)
  refine Has.each [0, 3] [] (s.size - 1) (fun k (b : Unit) => ∀ j, j < k → Lib.occAt s.data.toList colS j = false) (fun b i => St.of 23 [(0, .str s), (3, .int .i64 i)] [] []) ⟨(), 0, rfl, fun j hj => (by omega), rfl⟩ (fun k b hk hI => ?_) (fun b hI => ?_)
  · have w1 : IntKind.i64.wrap ((k : Int) + 1) = (k : Int) + 1 := wrap_i64 (by omega)
    have hd1 : (IntKind.i64.wrap ((k : Int) + 1)).toNat = k + 1 := by rw [w1]; omega
    have b0 : decide (IntKind.i64.wrap ((k : Int) + 1) < (s.size : Int)) = true := decide_eq_true (by rw [w1]; omega)
    have f0 : 0 ≤ (k : Int) ∧ (k : Int) < (s.size : Int) := by omega
    have f1 : 0 ≤ IntKind.i64.wrap ((k : Int) + 1) ∧ IntKind.i64.wrap ((k : Int) + 1) < (s.size : Int) := by rw [w1]; omega
    have ho := occ_at s k (by omega)
    rw [← hd1] at ho
    have nxt : Lib.occAt s.data.toList colS k = false → ∀ j, j < k + 1 → Lib.occAt s.data.toList colS j = false := fun e j hj => by
      by_cases hjk : j = k
      · subst hjk; exact e
      · exact hI j (by omega)
    refine awp_go ?_
    repeat' (conv => whnf
             first
             | (refine And.intro (Or.inl (by kernel_rfl)) ?_)
             | (refine And.intro (by kernel_rfl) ?_)
             | (refine And.intro ⟨by kernel_rfl, by kernel_rfl⟩ ?_)
             | (refine cond_1 b0 ?_)
             | (refine ⟨f0, ?_⟩)
             | (refine ⟨f1, ?_⟩)
             | (refine cond_f ?_ ?_)
             | (refine ⟨_, ⟨by decide, rfl⟩, ?_⟩)
             | (refine cond_i (fun h => ?_) (fun h => ?_)))
    all_goals (conv => whnf)
    · have a1 : byteAt s k = 58 := by simpa using ‹(byteAt s (Int.toNat (k : Int)) == 58) = true›
      have a2 : byteAt s (IntKind.i64.wrap ((k : Int) + 1)).toNat = 32 := by simpa using ‹(byteAt s (IntKind.i64.wrap ((k : Int) + 1)).toNat == 32) = true›
      rw [decide_eq_true ⟨a1, a2⟩] at ho
      rw [Lib.index_first (by rw [size_list]; omega) ho hI]
    · have a2 : ¬ byteAt s (IntKind.i64.wrap ((k : Int) + 1)).toNat = 32 := by simpa using ‹(byteAt s (IntKind.i64.wrap ((k : Int) + 1)).toNat == 32) = false›
      exact ⟨(), _, rfl, nxt (by rw [ho]; exact decide_eq_false (fun e => a2 e.2)), w1⟩
    · have a1 : ¬ byteAt s k = 58 := by simpa using ‹(byteAt s (Int.toNat (k : Int)) == 58) = false›
      exact ⟨(), _, rfl, nxt (by rw [ho]; exact decide_eq_false (fun e => a1 e.1)), w1⟩
  · have w1 : IntKind.i64.wrap (((s.size - 1 : Nat) : Int) + 1) = ((s.size - 1 : Nat) : Int) + 1 := wrap_i64 (by omega)
    have b0 : decide (IntKind.i64.wrap (((s.size - 1 : Nat) : Int) + 1) < (s.size : Int)) = false := decide_eq_false (by rw [w1]; omega)
    have e : Lib.index s.data.toList colS = -1 := Lib.index_none fun j hj => by
      by_cases hjs : j + 1 < s.size
      · exact hI j (by omega)
      · exact occ_end s j hjs
    rw [e]
    refine awp_go ?_
    repeat' (conv => whnf
             first
             | (refine And.intro (Or.inl (by kernel_rfl)) ?_)
             | (refine And.intro (by kernel_rfl) ?_)
             | (refine And.intro ⟨by kernel_rfl, by kernel_rfl⟩ ?_)
             | (refine cond_0 b0 ?_)
             | (refine cond_f ?_ ?_)
             | (refine ⟨_, ⟨by decide, rfl⟩, ?_⟩)
             | (refine cond_i (fun h => ?_) (fun h => ?_)))
    all_goals (conv => whnf)
    all_goals rfl
end Go.Proofs.Ytijohhdgecadnaa.Cn
namespace Go.Proofs.Ytijohhdgecadnaa.Cn
open Go Go.Proofs Go.Proofs.Ytijohhdgecadnaa.Av Go.Proofs.Ytijohhdgecadnaa.Sp
set_option linter.unusedVariables false
set_option linter.unusedSimpArgs false
set_option linter.unusedSectionVars false
set_option maxRecDepth 100000
attribute [local irreducible] Fv Fp

theorem dec_small {n : Nat} (h : n < 10) : Lib.decDigits n = [UInt8.ofNat (48 + n)] := by rw [Lib.decDigits]; rw [dif_pos h]
theorem dec_more {n : Nat} (h : ¬ n < 10) : Lib.decDigits n = Lib.decDigits (n / 10) ++ [UInt8.ofNat (48 + n % 10)] := by rw [Lib.decDigits]; rw [dif_neg h]
theorem dig_at {n : Nat} (h : n < 10) : (⟨#[48, 49, 50, 51, 52, 53, 54, 55, 56, 57]⟩ : ByteArray).extract n (n + 1) = strL [UInt8.ofNat (48 + n)] := by
  have : n = 0 ∨ n = 1 ∨ n = 2 ∨ n = 3 ∨ n = 4 ∨ n = 5 ∨ n = 6 ∨ n = 7 ∨ n = 8 ∨ n = 9 := by omega
  rcases this with rfl | rfl | rfl | rfl | rfl | rfl | rfl | rfl | rfl | rfl <;> exact ext_list (by decide +kernel)
theorem dec_len (n : Nat) : (Lib.decDigits n).length ≤ n + 1 := by
  induction n using Nat.strongRecOn with
  | _ n ih =>
    by_cases h : n < 10
    · rw [dec_small h]; simp
    · rw [dec_more h]
      have := ih (n / 10) (by omega)
      simp only [List.length_append, List.length_cons, List.length_nil]
      omega
theorem digits_small (n : Int) (h0 : 0 ≤ n) (h : n < 10) (d : ByteArray) (hd : (⟨#[48, 49, 50, 51, 52, 53, 54, 55, 56, 57]⟩ : ByteArray).extract n.toNat (IntKind.i64.wrap (n + 1)).toNat = d) : Fv Try.prog 82 [.int .i64 n] (.str d) := by
  have w1 : IntKind.i64.wrap (n + 1) = n + 1 := wrap_i64 (by omega)
  have b0 : decide (n < 0) = false := decide_eq_false (by omega)
  have b1 : decide (n < 10) = true := decide_eq_true h
  have f1 : 0 ≤ n ∧ n ≤ IntKind.i64.wrap (n + 1) ∧ IntKind.i64.wrap (n + 1) ≤ ((10 : Nat) : Int) := by rw [w1]; omega
  refine Fv.of_awp Try.func82 rfl (by kernel_rfl) rfl (Nat.le_of_ble_eq_true rfl) ?_
  repeat' (conv => whnf
           first
           | (refine And.intro (Or.inl (by kernel_rfl)) ?_)
           | (refine And.intro (by kernel_rfl) ?_)
           | (refine And.intro ⟨by kernel_rfl, by kernel_rfl⟩ ?_)
           | (refine cond_0 b0 ?_)
           | (refine cond_1 b1 ?_)
           | (refine ⟨f1, ?_⟩)
           | (refine cond_f ?_ ?_)
           | (refine ⟨_, ⟨by decide, rfl⟩, ?_⟩)
           | (refine cond_i (fun h => ?_) (fun h => ?_)))
  all_goals (conv => whnf)
  all_goals rw [hd]
theorem digits_more (n q r : Int) (x d : ByteArray) (h00 : 0 ≤ n) (h : ¬ n < 10) (hq : IntKind.i64.wrap (n.tdiv 10) = q) (hr : n.tmod 10 = r) (h0 : 0 ≤ r ∧ r < 10) (hd : (⟨#[48, 49, 50, 51, 52, 53, 54, 55, 56, 57]⟩ : ByteArray).extract r.toNat (IntKind.i64.wrap (r + 1)).toNat = d)
    (n1 : Fv Try.prog 82 [.int .i64 q] (.str x)) (hz : ((x.size + d.size : Nat) : Int) ≤ 9223372036854775807) : Fv Try.prog 82 [.int .i64 n] (.str (x ++ d)) := by
  have w1 : IntKind.i64.wrap (r + 1) = r + 1 := wrap_i64 (by omega)
  have b0 : decide (n < 0) = false := decide_eq_false (by omega)
  have b1 : decide (n < 10) = false := decide_eq_false h
  have f1 : 0 ≤ r ∧ r ≤ IntKind.i64.wrap (r + 1) ∧ IntKind.i64.wrap (r + 1) ≤ ((10 : Nat) : Int) := by rw [w1]; omega
  subst hq hr hd
  refine Fv.of_awp Try.func82 rfl (by kernel_rfl) rfl (Nat.le_of_ble_eq_true rfl) ?_
  repeat' (conv => whnf
           first
           | (refine And.intro (Or.inl (by kernel_rfl)) ?_)
           | (refine And.intro (by kernel_rfl) ?_)
           | (refine And.intro ⟨by kernel_rfl, by kernel_rfl⟩ ?_)
           | (refine cond_0 b0 ?_)
           | (refine cond_0 b1 ?_)
           | (refine Or.inl ⟨_, n1, ?_⟩)
           | (refine ⟨_, n1, ?_⟩)
           | (refine ⟨f1, ?_⟩)
           | (refine ⟨hz, ?_⟩)
           | (refine cond_f ?_ ?_)
           | (refine ⟨_, ⟨by decide, rfl⟩, ?_⟩)
           | (refine cond_i (fun h => ?_) (fun h => ?_)))
  all_goals (conv => whnf)
  all_goals rfl
theorem ref06_Nat (n : Nat) : n < 9223372036854775808 → Fv Try.prog 82 [.int .i64 (n : Int)] (.str (strL (Lib.decDigits n))) := by
  induction n using Nat.strongRecOn with
  | _ n ih =>
    intro hn
    have lit : ∀ r : Nat, r < 10 → (⟨#[48, 49, 50, 51, 52, 53, 54, 55, 56, 57]⟩ : ByteArray).extract ((r : Nat) : Int).toNat (IntKind.i64.wrap (((r : Nat) : Int) + 1)).toNat = strL [UInt8.ofNat (48 + r)] := fun r hr => by
      rw [wrap_i64 (by omega), show (((r : Nat) : Int) + 1).toNat = r + 1 from by omega, Int.toNat_natCast]; exact dig_at hr
    by_cases h : n < 10
    · rw [dec_small h]
      exact digits_small n (by omega) (by omega) _ (lit n h)
    · rw [dec_more h, ← strL_app]
      have hl := dec_len (n / 10)
      refine digits_more n ((n / 10 : Nat) : Int) ((n % 10 : Nat) : Int) _ _ (by omega) (by omega) ?_ ?_ ⟨by omega, by omega⟩ (lit (n % 10) (by omega)) (ih (n / 10) (by omega) (by omega)) (by rw [strL_size, strL_size]; simp only [List.length_cons, List.length_nil]; omega)
      · rw [Int.tdiv_eq_ediv_of_nonneg (by omega), wrap_i64 (by omega)]; rfl
      · rw [Int.tmod_eq_emod_of_nonneg (by omega)]; rfl
end Go.Proofs.Ytijohhdgecadnaa.Cn
namespace Go.Proofs.Ytijohhdgecadnaa.Cn
open Go Go.Proofs Go.Proofs.Ytijohhdgecadnaa.Av Go.Proofs.Ytijohhdgecadnaa.Sp Go.RowKit
set_option linter.unusedVariables false
set_option linter.unusedSimpArgs false
set_option linter.unusedSectionVars false
set_option maxRecDepth 100000
attribute [local irreducible] Fv Fp

theorem r37_is (s w : ByteArray) (h : s.size ≤ 1000000) (hw : ∀ c ∈ w.data.toList, ¬ (65 ≤ c.toNat ∧ c.toNat ≤ 90)) : Fv Try.prog 81 [.str s, .str w] (.bool (decide (lowL s.data.toList = w.data.toList))) := by
  by_cases hl : s.size = w.size
  · have b9 : ((s.size : Int) != (w.size : Int)) = false := by rw [hl]; simp
    refine Fv.of_awp Try.func81 rfl (by kernel_rfl) rfl (Nat.le_of_ble_eq_true rfl) ?_
    repeat' (conv => whnf
             first
             | (refine And.intro (Or.inl (by kernel_rfl)) ?_)
             | (refine And.intro (by kernel_rfl) ?_)
             | (refine And.intro ⟨by kernel_rfl, by kernel_rfl⟩ ?_)
             | (refine cond_0 b9 ?_)
             | (refine cond_f ?_ ?_)
             | (refine ⟨_, ⟨by decide, rfl⟩, ?_⟩)
             | (refine cond_i (fun h => ?_) (fun h => ?_)))
    all_goals (conv => whnf)
    refine Has.each [0, 1, 5] [] s.size (fun k (b : Unit) => ∀ j, j < k → lowB (s.data.toList.getD j 0) = w.data.toList.getD j 0) (fun b i => St.of 46 [(0, .str s), (1, .str w), (5, .int .i64 i)] [] []) ⟨(), 0, rfl, fun j hj => (by omega), rfl⟩ (fun k b hk hI => ?_) (fun b hI => ?_)
    · have b0 : decide ((k : Int) < (s.size : Int)) = true := decide_eq_true (by omega)
      have f0 : 0 ≤ (k : Int) ∧ (k : Int) < (s.size : Int) := by omega
      have f1 : 0 ≤ (k : Int) ∧ (k : Int) < (w.size : Int) := by omega
      have w1 : IntKind.i64.wrap ((k : Int) + 1) = (k : Int) + 1 := wrap_i64 (by omega)
      have ex : byteAt s k = ((s.data.toList.getD k 0).toNat : Int) := rfl
      have ey : byteAt w k = ((w.data.toList.getD k 0).toNat : Int) := rfl
      have hkw : k < w.data.toList.length := by rw [size_list]; omega
      have hks : k < s.data.toList.length := by rw [size_list]; omega
      have hup : ¬ (65 ≤ (w.data.toList.getD k 0).toNat ∧ (w.data.toList.getD k 0).toNat ≤ 90) := by
        rw [List.getD_eq_getElem?_getD, List.getElem?_eq_getElem hkw]; exact hw _ (List.getElem_mem hkw)
      have lb := lowB_eq (s.data.toList.getD k 0)
      have hcl := (s.data.toList.getD k 0).toNat_lt
      have hdl := (w.data.toList.getD k 0).toNat_lt
      have nxt : lowB (s.data.toList.getD k 0) = w.data.toList.getD k 0 → ∀ j, j < k + 1 → lowB (s.data.toList.getD j 0) = w.data.toList.getD j 0 := fun e j hj => by
        by_cases hjk : j = k
        · subst hjk; exact e
        · exact hI j (by omega)
      have bad : lowB (s.data.toList.getD k 0) ≠ w.data.toList.getD k 0 → decide (lowL s.data.toList = w.data.toList) = false := fun e => decide_eq_false fun e2 => e (by
        have h2 := congrArg (fun l => l.getD k 0) e2
        simp only [lowL, List.getD_eq_getElem?_getD, List.getElem?_map, List.getElem?_eq_getElem hks, List.getElem?_eq_getElem hkw, Option.map_some, Option.getD_some] at h2 ⊢
        exact h2)
      have eqB : ∀ a b : UInt8, a = b ↔ (a.toNat : Int) = (b.toNat : Int) := fun a b => ⟨fun e => by rw [e], fun e => UInt8.toNat_inj.1 (by omega)⟩
      have ne : ∀ a b : UInt8, a ≠ b ↔ ¬ (a.toNat : Int) = (b.toNat : Int) := fun a b => not_congr (eqB a b)
      rw [ne, lb] at bad
      rw [eqB, lb] at nxt
      generalize s.data.toList.getD k 0 = c at *
      generalize w.data.toList.getD k 0 = d at *
      by_cases p1 : byteAt s k = byteAt w k
      · have t1 : (byteAt s k != byteAt w k) = false := by rw [p1]; simp
        refine awp_go ?_
        repeat' (conv => whnf
                 first
                 | (refine And.intro (Or.inl (by kernel_rfl)) ?_)
                 | (refine And.intro (by kernel_rfl) ?_)
                 | (refine And.intro ⟨by kernel_rfl, by kernel_rfl⟩ ?_)
                 | (refine cond_1 b0 ?_)
                 | (refine ⟨f0, ?_⟩)
                 | (refine ⟨f1, ?_⟩)
                 | (refine cond_0 t1 ?_)
                 | (refine cond_f ?_ ?_)
                 | (refine ⟨_, ⟨by decide, rfl⟩, ?_⟩)
                 | (refine cond_i (fun h => ?_) (fun h => ?_)))
        all_goals (conv => whnf)
        exact ⟨(), _, rfl, nxt (by rw [if_neg (by omega)]; omega), w1⟩
      · have t1 : (byteAt s k != byteAt w k) = true := by simpa using p1
        by_cases p2 : byteAt s k < 65
        · have t2 : decide (byteAt s k < 65) = true := decide_eq_true p2
          have bad := bad (by rw [if_neg (by omega)]; omega)
          rw [bad]
          refine awp_go ?_
          repeat' (conv => whnf
                   first
                   | (refine And.intro (Or.inl (by kernel_rfl)) ?_)
                   | (refine And.intro (by kernel_rfl) ?_)
                   | (refine And.intro ⟨by kernel_rfl, by kernel_rfl⟩ ?_)
                   | (refine cond_1 b0 ?_)
                   | (refine ⟨f0, ?_⟩)
                   | (refine ⟨f1, ?_⟩)
                   | (refine cond_1 t1 ?_)
                   | (refine cond_1 t2 ?_)
                   | (refine cond_f ?_ ?_)
                   | (refine ⟨_, ⟨by decide, rfl⟩, ?_⟩)
                   | (refine cond_i (fun h => ?_) (fun h => ?_)))
          all_goals (conv => whnf)
          all_goals rfl
        · have t2 : decide (byteAt s k < 65) = false := decide_eq_false p2
          by_cases p3 : byteAt s k > 90
          · have t3 : decide (byteAt s k > 90) = true := decide_eq_true p3
            have bad := bad (by rw [if_neg (by omega)]; omega)
            rw [bad]
            refine awp_go ?_
            repeat' (conv => whnf
                     first
                     | (refine And.intro (Or.inl (by kernel_rfl)) ?_)
                     | (refine And.intro (by kernel_rfl) ?_)
                     | (refine And.intro ⟨by kernel_rfl, by kernel_rfl⟩ ?_)
                     | (refine cond_1 b0 ?_)
                     | (refine ⟨f0, ?_⟩)
                     | (refine ⟨f1, ?_⟩)
                     | (refine cond_1 t1 ?_)
                     | (refine cond_0 t2 ?_)
                     | (refine cond_1 t3 ?_)
                     | (refine cond_f ?_ ?_)
                     | (refine ⟨_, ⟨by decide, rfl⟩, ?_⟩)
                     | (refine cond_i (fun h => ?_) (fun h => ?_)))
            all_goals (conv => whnf)
            all_goals rfl
          · have t3 : decide (byteAt s k > 90) = false := decide_eq_false p3
            have wv : IntKind.u8.wrap (byteAt s k + 32) = byteAt s k + 32 := (by rw [wrap_u8m]; omega)
            by_cases p4 : IntKind.u8.wrap (byteAt s k + 32) = byteAt w k
            · have t4 : (IntKind.u8.wrap (byteAt s k + 32) != byteAt w k) = false := by rw [p4]; simp
              refine awp_go ?_
              repeat' (conv => whnf
                       first
                       | (refine And.intro (Or.inl (by kernel_rfl)) ?_)
                       | (refine And.intro (by kernel_rfl) ?_)
                       | (refine And.intro ⟨by kernel_rfl, by kernel_rfl⟩ ?_)
                       | (refine cond_1 b0 ?_)
                       | (refine ⟨f0, ?_⟩)
                       | (refine ⟨f1, ?_⟩)
                       | (refine cond_1 t1 ?_)
                       | (refine cond_0 t2 ?_)
                       | (refine cond_0 t3 ?_)
                       | (refine cond_0 t4 ?_)
                       | (refine cond_f ?_ ?_)
                       | (refine ⟨_, ⟨by decide, rfl⟩, ?_⟩)
                       | (refine cond_i (fun h => ?_) (fun h => ?_)))
              all_goals (conv => whnf)
              exact ⟨(), _, rfl, nxt (by rw [if_pos (by omega)]; omega), w1⟩
            · have t4 : (IntKind.u8.wrap (byteAt s k + 32) != byteAt w k) = true := by simpa using p4
              have bad := bad (by rw [if_pos (by omega)]; omega)
              rw [bad]
              refine awp_go ?_
              repeat' (conv => whnf
                       first
                       | (refine And.intro (Or.inl (by kernel_rfl)) ?_)
                       | (refine And.intro (by kernel_rfl) ?_)
                       | (refine And.intro ⟨by kernel_rfl, by kernel_rfl⟩ ?_)
                       | (refine cond_1 b0 ?_)
                       | (refine ⟨f0, ?_⟩)
                       | (refine ⟨f1, ?_⟩)
                       | (refine cond_1 t1 ?_)
                       | (refine cond_0 t2 ?_)
                       | (refine cond_0 t3 ?_)
                       | (refine cond_1 t4 ?_)
                       | (refine cond_f ?_ ?_)
                       | (refine ⟨_, ⟨by decide, rfl⟩, ?_⟩)
                       | (refine cond_i (fun h => ?_) (fun h => ?_)))
              all_goals (conv => whnf)
              all_goals rfl
    · have b0 : decide ((s.size : Int) < (s.size : Int)) = false := decide_eq_false (by omega)
      have e : lowL s.data.toList = w.data.toList := by
        apply List.ext_getElem
        · rw [lowL, List.length_map, size_list, size_list, hl]
        · intro j h1 h2
          have h3 : j < s.data.toList.length := by simpa [lowL] using h1
          have := hI j (by rw [size_list] at h3; exact h3)
          simp only [List.getD_eq_getElem?_getD, List.getElem?_eq_getElem h3, List.getElem?_eq_getElem h2, Option.getD_some] at this
          simp only [lowL, List.getElem_map]
          exact this
      rw [decide_eq_true e]
      refine awp_go ?_
      repeat' (conv => whnf
               first
               | (refine And.intro (Or.inl (by kernel_rfl)) ?_)
               | (refine And.intro (by kernel_rfl) ?_)
               | (refine And.intro ⟨by kernel_rfl, by kernel_rfl⟩ ?_)
               | (refine cond_0 b0 ?_)
               | (refine cond_f ?_ ?_)
               | (refine ⟨_, ⟨by decide, rfl⟩, ?_⟩)
               | (refine cond_i (fun h => ?_) (fun h => ?_)))
      all_goals (conv => whnf)
      all_goals rfl
  · have b9 : ((s.size : Int) != (w.size : Int)) = true := by simp only [bne_iff_ne, ne_eq]; omega
    have e : decide (lowL s.data.toList = w.data.toList) = false := decide_eq_false fun e => hl (by have := congrArg List.length e; rw [lowL, List.length_map, size_list, size_list] at this; exact this)
    rw [e]
    refine Fv.of_awp Try.func81 rfl (by kernel_rfl) rfl (Nat.le_of_ble_eq_true rfl) ?_
    repeat' (conv => whnf
             first
             | (refine And.intro (Or.inl (by kernel_rfl)) ?_)
             | (refine And.intro (by kernel_rfl) ?_)
             | (refine And.intro ⟨by kernel_rfl, by kernel_rfl⟩ ?_)
             | (refine cond_1 b9 ?_)
             | (refine cond_f ?_ ?_)
             | (refine ⟨_, ⟨by decide, rfl⟩, ?_⟩)
             | (refine cond_i (fun h => ?_) (fun h => ?_)))
    all_goals (conv => whnf)
    all_goals rfl
theorem r37_which (s : ByteArray) (h : s.size ≤ 1000000) : Fv Try.prog 69 [.str s] (.int .i64 (kindN s.data.toList : Nat)) := by
  have n1 : Fv Try.prog 81 [.str s, .str ⟨#[115, 116, 97, 116, 117, 115]⟩] (.bool (decide (lowL s.data.toList = wStatus))) := r37_is s ⟨#[115, 116, 97, 116, 117, 115]⟩ h (by decide)
  have n2 : Fv Try.prog 81 [.str s, .str ⟨#[109, 101, 115, 115, 97, 103, 101]⟩] (.bool (decide (lowL s.data.toList = wMessage))) := r37_is s ⟨#[109, 101, 115, 115, 97, 103, 101]⟩ h (by decide)
  have n3 : Fv Try.prog 81 [.str s, .str ⟨#[112, 117, 115, 104, 98, 97, 99, 107]⟩] (.bool (decide (lowL s.data.toList = wPushback))) := r37_is s ⟨#[112, 117, 115, 104, 98, 97, 99, 107]⟩ h (by decide)
  refine Fv.of_awp Try.func69 rfl (by kernel_rfl) rfl (Nat.le_of_ble_eq_true rfl) ?_
  repeat' (conv => whnf
           first
           | (refine And.intro (Or.inl (by kernel_rfl)) ?_)
           | (refine And.intro (by kernel_rfl) ?_)
           | (refine And.intro ⟨by kernel_rfl, by kernel_rfl⟩ ?_)
           | (refine Or.inl ⟨_, n1, ?_⟩)
           | (refine ⟨_, n1, ?_⟩)
           | (refine Or.inl ⟨_, n2, ?_⟩)
           | (refine ⟨_, n2, ?_⟩)
           | (refine Or.inl ⟨_, n3, ?_⟩)
           | (refine ⟨_, n3, ?_⟩)
           | (refine cond_f ?_ ?_)
           | (refine ⟨_, ⟨by decide, rfl⟩, ?_⟩)
           | (refine cond_i (fun h => ?_) (fun h => ?_)))
  all_goals (conv => whnf)
  all_goals (simp only [decide_eq_true_eq, decide_eq_false_iff_not] at *; unfold kindN; first | (simp [*]; done) | (simp [*]; decide))
theorem r37_code (s : ByteArray) (h : s.size ≤ 1000000) : Fv Try.prog 70 [.str s] (.int .i64 (codeI s.data.toList)) := by
  rw [codeI_eq]
  refine Fv.of_awp Try.func70 rfl (by kernel_rfl) rfl (Nat.le_of_ble_eq_true rfl) ?_
  repeat' (conv => whnf
           first
           | (refine And.intro (Or.inl (by kernel_rfl)) ?_)
           | (refine And.intro (by kernel_rfl) ?_)
           | (refine And.intro ⟨by kernel_rfl, by kernel_rfl⟩ ?_)
           | (refine cond_f ?_ ?_)
           | (refine ⟨_, ⟨by decide, rfl⟩, ?_⟩)
           | (refine cond_i (fun h => ?_) (fun h => ?_)))
  all_goals (conv => whnf)
  refine Has.each [0, 3] [] 17 (fun k (b : Unit) => ∀ j, j < k → (tab17 j == s.data.toList) = false) (fun b i => St.of 13 [(0, .str s), (3, .int .i64 i)] [] []) ⟨(), 0, rfl, fun j hj => (by omega), rfl⟩ (fun k b hk hI => ?_) (fun b hI => ?_)
  · have b0 : decide ((k : Int) ≤ 16) = true := decide_eq_true (by omega)
    have w1 : IntKind.i64.wrap ((k : Int) + 1) = (k : Int) + 1 := wrap_i64 (by omega)
    have n1 := ref06_Nat k (by omega)
    rw [tab17_eq hk] at n1
    have es := strEq_strL (tab17 k) s.data.toList
    rw [show (⟨s.data.toList.toArray⟩ : ByteArray) = s from strL_eq s] at es
    by_cases p : tab17 k = s.data.toList
    · rw [decide_eq_true p] at es
      have e : codeR s.data.toList = (k : Int) := by
        unfold codeR
        rw [List.find?_range_eq_some.2 ⟨by simpa using p, List.mem_range.2 hk, fun j hj => by rw [hI j hj]; rfl⟩]
      rw [e]
      refine awp_go ?_
      repeat' (conv => whnf
               first
               | (refine And.intro (Or.inl (by kernel_rfl)) ?_)
               | (refine And.intro (by kernel_rfl) ?_)
               | (refine And.intro ⟨by kernel_rfl, by kernel_rfl⟩ ?_)
               | (refine cond_1 b0 ?_)
               | (refine Or.inl ⟨_, n1, ?_⟩)
               | (refine ⟨_, n1, ?_⟩)
               | (refine cond_1 es ?_)
               | (refine cond_f ?_ ?_)
               | (refine ⟨_, ⟨by decide, rfl⟩, ?_⟩)
               | (refine cond_i (fun h => ?_) (fun h => ?_)))
      all_goals (conv => whnf)
      all_goals rfl
    · rw [decide_eq_false p] at es
      refine awp_go ?_
      repeat' (conv => whnf
               first
               | (refine And.intro (Or.inl (by kernel_rfl)) ?_)
               | (refine And.intro (by kernel_rfl) ?_)
               | (refine And.intro ⟨by kernel_rfl, by kernel_rfl⟩ ?_)
               | (refine cond_1 b0 ?_)
               | (refine Or.inl ⟨_, n1, ?_⟩)
               | (refine ⟨_, n1, ?_⟩)
               | (refine cond_0 es ?_)
               | (refine cond_f ?_ ?_)
               | (refine ⟨_, ⟨by decide, rfl⟩, ?_⟩)
               | (refine cond_i (fun h => ?_) (fun h => ?_)))
      all_goals (conv => whnf)
      exact ⟨(), _, rfl, fun j hj => (by
        by_cases hjk : j = k
        · subst hjk; simpa using p
        · exact hI j (by omega)), w1⟩
  · have b0 : decide (((17 : Nat) : Int) ≤ 16) = false := by decide
    have e : codeR s.data.toList = 2 := by
      unfold codeR
      rw [List.find?_range_eq_none.2 (fun j hj => by rw [hI j hj]; rfl)]
    rw [e]
    refine awp_go ?_
    repeat' (conv => whnf
             first
             | (refine And.intro (Or.inl (by kernel_rfl)) ?_)
             | (refine And.intro (by kernel_rfl) ?_)
             | (refine And.intro ⟨by kernel_rfl, by kernel_rfl⟩ ?_)
             | (refine cond_0 b0 ?_)
             | (refine cond_f ?_ ?_)
             | (refine ⟨_, ⟨by decide, rfl⟩, ?_⟩)
             | (refine cond_i (fun h => ?_) (fun h => ?_)))
    all_goals (conv => whnf)
    all_goals rfl
end Go.Proofs.Ytijohhdgecadnaa.Cn
namespace Go.Proofs.Ytijohhdgecadnaa.Cn
open Go Go.Proofs Go.Proofs.Ytijohhdgecadnaa.Av Go.Proofs.Ytijohhdgecadnaa.Sp Go.RowKit
set_option linter.unusedVariables false
set_option linter.unusedSimpArgs false
set_option linter.unusedSectionVars false
set_option maxRecDepth 100000
attribute [local irreducible] Fv Fp

theorem r37_all (s : ByteArray) (h : s.size ≤ 1000000) : Fv Try.prog 83 [.str s] (.bool (s.data.toList.all isDig)) := by
  refine Fv.of_awp Try.func83 rfl (by kernel_rfl) rfl (Nat.le_of_ble_eq_true rfl) ?_
  repeat' (conv => whnf
           first
           | (refine And.intro (Or.inl (by kernel_rfl)) ?_)
           | (refine And.intro (by kernel_rfl) ?_)
           | (refine And.intro ⟨by kernel_rfl, by kernel_rfl⟩ ?_)
           | (refine cond_f ?_ ?_)
           | (refine ⟨_, ⟨by decide, rfl⟩, ?_⟩)
           | (refine cond_i (fun h => ?_) (fun h => ?_)))
  all_goals (conv => whnf)
  refine Has.each [0, 3] [] s.size (fun k (b : Unit) => (s.data.toList.take k).all isDig = true) (fun b i => St.of 20 [(0, .str s), (3, .int .i64 i)] [] []) ⟨(), 0, rfl, rfl, rfl⟩ (fun k b hk hI => ?_) (fun b hI => ?_)
  · obtain ⟨hA, hD⟩ := dig_all_take hk
    have hc : byteAt s k = ((s.data.toList.getD k 0).toNat : Int) := rfl
    have b0 : decide ((k : Int) < (s.size : Int)) = true := decide_eq_true (by omega)
    have f0 : 0 ≤ (k : Int) ∧ (k : Int) < (s.size : Int) := by omega
    have w1 : IntKind.i64.wrap ((k : Int) + 1) = (k : Int) + 1 := wrap_i64 (by omega)
    cases hd : isDig (s.data.toList.getD k 0) with
    | true =>
      have hd' := of_decide_eq_true hd
      have t1 : decide (byteAt s k < 48) = false := decide_eq_false (by omega)
      have t2 : decide (byteAt s k > 57) = false := decide_eq_false (by omega)
      refine awp_go ?_
      repeat' (conv => whnf
               first
               | (refine And.intro (Or.inl (by kernel_rfl)) ?_)
               | (refine And.intro (by kernel_rfl) ?_)
               | (refine And.intro ⟨by kernel_rfl, by kernel_rfl⟩ ?_)
               | (refine cond_1 b0 ?_)
               | (refine ⟨f0, ?_⟩)
               | (refine cond_0 t1 ?_)
               | (refine cond_0 t2 ?_)
               | (refine cond_f ?_ ?_)
               | (refine ⟨_, ⟨by decide, rfl⟩, ?_⟩)
               | (refine cond_i (fun h => ?_) (fun h => ?_)))
      all_goals (conv => whnf)
      exact ⟨(), _, rfl, by rw [hA, hI, hd]; rfl, w1⟩
    | false =>
      have hd' := of_decide_eq_false hd
      rw [all_false (by rw [size_list]; exact hk) hd]
      refine awp_go ?_
      repeat' (conv => whnf
               first
               | (refine And.intro (Or.inl (by kernel_rfl)) ?_)
               | (refine And.intro (by kernel_rfl) ?_)
               | (refine And.intro ⟨by kernel_rfl, by kernel_rfl⟩ ?_)
               | (refine cond_1 b0 ?_)
               | (refine ⟨f0, ?_⟩)
               | (refine cond_f ?_ ?_)
               | (refine ⟨_, ⟨by decide, rfl⟩, ?_⟩)
               | (refine cond_i (fun h => ?_) (fun h => ?_)))
      all_goals (conv => whnf)
      all_goals first
        | rfl
        | (exfalso
           have a1 : ¬ byteAt s k < 48 := by refine of_decide_eq_false ?_; assumption
           have a2 : ¬ byteAt s k > 57 := by refine of_decide_eq_false ?_; assumption
           omega)
  · rw [show s.data.toList.take s.size = s.data.toList from by rw [← size_list, List.take_length]] at hI
    rw [hI]
    have b0 : decide ((s.size : Int) < (s.size : Int)) = false := decide_eq_false (by omega)
    refine awp_go ?_
    repeat' (conv => whnf
             first
             | (refine And.intro (Or.inl (by kernel_rfl)) ?_)
             | (refine And.intro (by kernel_rfl) ?_)
             | (refine And.intro ⟨by kernel_rfl, by kernel_rfl⟩ ?_)
             | (refine cond_0 b0 ?_)
             | (refine cond_f ?_ ?_)
             | (refine ⟨_, ⟨by decide, rfl⟩, ?_⟩)
             | (refine cond_i (fun h => ?_) (fun h => ?_)))
    all_goals (conv => whnf)
    all_goals rfl
theorem r37_wait (s : ByteArray) (h : s.size ≤ 1000000) : Fv Try.prog 71 [.str s] (.int .i64 (numI s.data.toList 7)) := by
  have n1 := r37_all s h
  by_cases hb : s.data.toList = [] ∨ 7 < s.data.toList.length ∨ s.data.toList.all isDig = false
  · have e : numI s.data.toList 7 = -1 := by unfold numI; rw [if_pos hb]
    rw [e]
    rw [size_list] at hb
    by_cases h0 : s.size = 0
    · have b1 : ((s.size : Int) == 0) = true := by rw [h0]; rfl
      refine Fv.of_awp Try.func71 rfl (by kernel_rfl) rfl (Nat.le_of_ble_eq_true rfl) ?_
      repeat' (conv => whnf
               first
               | (refine And.intro (Or.inl (by kernel_rfl)) ?_)
               | (refine And.intro (by kernel_rfl) ?_)
               | (refine And.intro ⟨by kernel_rfl, by kernel_rfl⟩ ?_)
               | (refine cond_1 b1 ?_)
               | (refine cond_f ?_ ?_)
               | (refine ⟨_, ⟨by decide, rfl⟩, ?_⟩)
               | (refine cond_i (fun h => ?_) (fun h => ?_)))
      all_goals (conv => whnf)
      all_goals rfl
    · have b1 : ((s.size : Int) == 0) = false := by simp only [beq_eq_false_iff_ne, ne_eq]; omega
      by_cases h7 : 7 < s.size
      · have b2 : decide ((s.size : Int) > 7) = true := decide_eq_true (by omega)
        refine Fv.of_awp Try.func71 rfl (by kernel_rfl) rfl (Nat.le_of_ble_eq_true rfl) ?_
        repeat' (conv => whnf
                 first
                 | (refine And.intro (Or.inl (by kernel_rfl)) ?_)
                 | (refine And.intro (by kernel_rfl) ?_)
                 | (refine And.intro ⟨by kernel_rfl, by kernel_rfl⟩ ?_)
                 | (refine cond_0 b1 ?_)
                 | (refine cond_1 b2 ?_)
                 | (refine cond_f ?_ ?_)
                 | (refine ⟨_, ⟨by decide, rfl⟩, ?_⟩)
                 | (refine cond_i (fun h => ?_) (fun h => ?_)))
        all_goals (conv => whnf)
        all_goals rfl
      · have b2 : decide ((s.size : Int) > 7) = false := decide_eq_false (by omega)
        have e3 : s.data.toList.all isDig = false := by
          rcases hb with hb | hb | hb
          · exact absurd (by rw [← size_list, hb]; rfl) h0
          · exact absurd hb h7
          · exact hb
        rw [e3] at n1
        have b3 : (!false) = true := rfl
        refine Fv.of_awp Try.func71 rfl (by kernel_rfl) rfl (Nat.le_of_ble_eq_true rfl) ?_
        repeat' (conv => whnf
                 first
                 | (refine And.intro (Or.inl (by kernel_rfl)) ?_)
                 | (refine And.intro (by kernel_rfl) ?_)
                 | (refine And.intro ⟨by kernel_rfl, by kernel_rfl⟩ ?_)
                 | (refine cond_0 b1 ?_)
                 | (refine cond_0 b2 ?_)
                 | (refine Or.inl ⟨_, n1, ?_⟩)
                 | (refine ⟨_, n1, ?_⟩)
                 | (refine cond_f ?_ ?_)
                 | (refine ⟨_, ⟨by decide, rfl⟩, ?_⟩)
                 | (refine cond_i (fun h => ?_) (fun h => ?_)))
        all_goals (conv => whnf)
        all_goals rfl
  · have e : numI s.data.toList 7 = (decL s.data.toList : Nat) := by unfold numI; rw [if_neg hb]
    rw [e]
    have hb' : ¬ s.size = 0 ∧ ¬ 7 < s.size ∧ s.data.toList.all isDig = true := by
      rw [size_list] at hb
      refine ⟨fun e => hb (.inl (List.length_eq_zero_iff.1 (by rw [size_list]; exact e))), fun e => hb (.inr (.inl e)), ?_⟩
      cases hx : s.data.toList.all isDig with
      | true => rfl
      | false => exact absurd (.inr (.inr hx)) hb
    obtain ⟨h0, h7, hall⟩ := hb'
    have b1 : ((s.size : Int) == 0) = false := by simp only [beq_eq_false_iff_ne, ne_eq]; omega
    have b2 : decide ((s.size : Int) > 7) = false := decide_eq_false (by omega)
    rw [hall] at n1
    refine Fv.of_awp Try.func71 rfl (by kernel_rfl) rfl (Nat.le_of_ble_eq_true rfl) ?_
    repeat' (conv => whnf
             first
             | (refine And.intro (Or.inl (by kernel_rfl)) ?_)
             | (refine And.intro (by kernel_rfl) ?_)
             | (refine And.intro ⟨by kernel_rfl, by kernel_rfl⟩ ?_)
             | (refine cond_0 b1 ?_)
             | (refine cond_0 b2 ?_)
             | (refine Or.inl ⟨_, n1, ?_⟩)
             | (refine ⟨_, n1, ?_⟩)
             | (refine cond_f ?_ ?_)
             | (refine ⟨_, ⟨by decide, rfl⟩, ?_⟩)
             | (refine cond_i (fun h => ?_) (fun h => ?_)))
    all_goals (conv => whnf)
    refine Has.each [0, 3, 4] [] s.size (fun k (n : Int) => n = (decL (s.data.toList.take k) : Nat)) (fun n i => St.of 33 [(0, .str s), (3, .int .i64 n), (4, .int .i64 i)] [] []) ⟨0, 0, rfl, rfl, rfl⟩ (fun k n hk hI => ?_) (fun n hI => ?_)
    · obtain ⟨hA, hD⟩ := dig_all_take hk
      have hl : k < s.data.toList.length := by rw [size_list]; exact hk
      have htk : (s.data.toList.take k).all isDig = true := by
        rw [List.all_eq_true] at hall ⊢
        exact fun x hx => hall x (List.mem_of_mem_take hx)
      have hlt := decL_lt _ htk
      rw [List.length_take, size_list, Nat.min_eq_left (by omega)] at hlt
      have hp : 10 ^ k ≤ 10 ^ 7 := Nat.pow_le_pow_right (by omega) (by omega)
      have hc : byteAt s k = ((s.data.toList.getD k 0).toNat : Int) := rfl
      have hd : isDig (s.data.toList.getD k 0) = true := by
        rw [List.all_eq_true] at hall
        rw [List.getD_eq_getElem?_getD, List.getElem?_eq_getElem hl]
        exact hall _ (List.getElem_mem hl)
      have hd' := of_decide_eq_true hd
      have b0 : decide ((k : Int) < (s.size : Int)) = true := decide_eq_true (by omega)
      have f0 : 0 ≤ (k : Int) ∧ (k : Int) < (s.size : Int) := by omega
      have w1 : IntKind.i64.wrap ((k : Int) + 1) = (k : Int) + 1 := wrap_i64 (by omega)
      refine awp_go ?_
      repeat' (conv => whnf
               first
               | (refine And.intro (Or.inl (by kernel_rfl)) ?_)
               | (refine And.intro (by kernel_rfl) ?_)
               | (refine And.intro ⟨by kernel_rfl, by kernel_rfl⟩ ?_)
               | (refine cond_1 b0 ?_)
               | (refine ⟨f0, ?_⟩)
               | (refine cond_f ?_ ?_)
               | (refine ⟨_, ⟨by decide, rfl⟩, ?_⟩)
               | (refine cond_i (fun h => ?_) (fun h => ?_)))
      all_goals (conv => whnf)
      refine ⟨_, _, rfl, ?_, w1⟩
      rw [hD, hI, show byteAt s (Int.toNat (k : Int)) = ((s.data.toList.getD k 0).toNat : Int) from rfl, wrap_i64 (n := 10 * _) (by omega), wrap_i64 (n := ((s.data.toList.getD k 0).toNat : Int)) (by omega), wrap_i64 (n := 10 * _ + _) (by omega), wrap_i64 (by omega)]
      omega
    · rw [show s.data.toList.take s.size = s.data.toList from by rw [← size_list, List.take_length]] at hI
      rw [← hI]
      have b0 : decide ((s.size : Int) < (s.size : Int)) = false := decide_eq_false (by omega)
      refine awp_go ?_
      repeat' (conv => whnf
               first
               | (refine And.intro (Or.inl (by kernel_rfl)) ?_)
               | (refine And.intro (by kernel_rfl) ?_)
               | (refine And.intro ⟨by kernel_rfl, by kernel_rfl⟩ ?_)
               | (refine cond_0 b0 ?_)
               | (refine cond_f ?_ ?_)
               | (refine ⟨_, ⟨by decide, rfl⟩, ?_⟩)
               | (refine cond_i (fun h => ?_) (fun h => ?_)))
      all_goals (conv => whnf)
      all_goals rfl
end Go.Proofs.Ytijohhdgecadnaa.Cn
namespace Go.Proofs.Ytijohhdgecadnaa.Cn
open Go Go.Proofs Go.Proofs.Ytijohhdgecadnaa.Av Go.Proofs.Ytijohhdgecadnaa.Sp Go.RowKit
set_option linter.unusedVariables false
set_option linter.unusedSimpArgs false
set_option linter.unusedSectionVars false
set_option maxRecDepth 100000
attribute [local irreducible] Fv Fp

def bR (b : Bool) : List G := [.bool b]
/-- The document's state at the loop's head. -/
def rpSt (L : List (List G)) (t : Trl) (h0 h1 h2 h3 : Bool) (i : Int) : St :=
  St.of 81 [(2, .ptr 2 0), (3, .int .i64 0), (4, .int .i64 0), (5, .ptr 5 0), (6, .own 13 0 4), (7, .sl L), (8, .int .i64 i)] [(2, tr0.g), (5, t.g)] [(13, [bR h0, bR h1, bR h2, bR h3])]
theorem lnL_at (s : ByteArray) {k : Nat} (hk : k < (linesB s).length) : (lnL s.data.toList)[k]? = some (trimL (linesB s)[k]) := by
  rw [← lnL_eq, List.getElem?_map, List.getElem?_eq_getElem hk]; rfl
theorem cut_pos {l : List UInt8} {i : Nat} (h : Lib.index l colS = (i : Int)) : Lib.cut l [58, 32] = (l.take i, l.drop (i + 2), true) := by
  have h' : Lib.index l [58, 32] = (i : Int) := h
  unfold Lib.cut
  rw [h', if_pos (by omega), Int.toNat_natCast]; rfl
theorem cut_neg {l : List UInt8} (h : ¬ 0 ≤ Lib.index l colS) : Lib.cut l [58, 32] = (l, [], false) := by
  have h' : ¬ 0 ≤ Lib.index l [58, 32] := h
  unfold Lib.cut
  rw [if_neg h']
theorem str_take (l : List UInt8) (i : Nat) : (strL l).extract 0 i = strL (l.take i) := by rw [ext_slice, strL_list, List.drop_zero]
theorem str_drop (l : List UInt8) (i n : Nat) (h : n = l.length) : (strL l).extract i n = strL (l.drop i) := by rw [ext_slice, strL_list, h, List.take_length]
abbrev PS := Trl × Bool × Bool × Bool × Bool
set_option maxHeartbeats 8000000 in
theorem r37_Parse (s : ByteArray) (h : s.size ≤ 1000000) : Fv Try.prog 48 [.str s] (resG (parseT s)) := by
  have n0 := r29_Lines s h
  have hLn : (lnL s.data.toList).length = (linesB s).length := by rw [← lnL_eq, List.length_map]
  obtain ⟨hl1, hl2⟩ := linesB_len s
  refine Fv.of_awp Try.func48 rfl (by kernel_rfl) rfl (Nat.le_of_ble_eq_true rfl) ?_
  repeat' (conv => whnf
           first
           | (refine And.intro (Or.inl (by kernel_rfl)) ?_)
           | (refine And.intro (by kernel_rfl) ?_)
           | (refine And.intro ⟨by kernel_rfl, by kernel_rfl⟩ ?_)
           | (refine Or.inl ⟨_, n0, ?_⟩)
           | (refine ⟨_, n0, ?_⟩)
           | (refine cond_f ?_ ?_)
           | (refine ⟨_, ⟨by decide, rfl⟩, ?_⟩)
           | (refine cond_i (fun h => ?_) (fun h => ?_)))
  all_goals (conv => whnf)
  refine Has.each [2, 3, 4, 5, 6, 7, 8] [] (linesB s).length (fun k (b : PS) => parseT s = parseP ((linesB s).drop k) (k : Nat) b.1 b.2.1 b.2.2.1 b.2.2.2.1) (fun b i => rpSt ((lnL s.data.toList).map strR) b.1 b.2.1 b.2.2.1 b.2.2.2.1 b.2.2.2.2 i) ⟨(tr1, false, false, false, false), 0, rfl, rfl, rfl⟩ (fun k b hk hI => ?_) (fun b hI => ?_)
  · obtain ⟨t, h0, h1, h2, h3⟩ := b
    simp only at hI
    have hx := lnL_at s hk
    have hxs := hl2 (linesB s)[k] (List.getElem_mem hk)
    rw [List.drop_eq_getElem_cons hk, parseP] at hI
    have htl := trimL_len (linesB s)[k]
    have hcu : cutL (linesB s)[k] = Lib.cut (trimL (linesB s)[k]) [58, 32] := rfl
    rw [hcu] at hI
    have b0 : decide ((k : Int) < ((((lnL s.data.toList).map strR).length : Nat) : Int)) = true := decide_eq_true (by rw [List.length_map, hLn]; omega)
    have f0 : 0 ≤ (k : Int) ∧ ((lnL s.data.toList).map strR)[(k : Int).toNat]? = some (strR (trimL (linesB s)[k])) := ⟨by omega, by rw [Int.toNat_natCast, List.getElem?_map, hx]; rfl⟩
    have w1 : IntKind.i64.wrap ((k : Int) + 1) = (k : Int) + 1 := wrap_i64 (by omega)
    have w1' : ((k + 1 : Nat) : Int) = (k : Int) + 1 := rfl
    have n1 := r37_cut (strL (trimL (linesB s)[k])) (by rw [strL_size]; omega)
    rw [strL_list] at n1
    obtain ⟨t0, hst⟩ : ∃ t0, t0 = parseT s := ⟨_, rfl⟩
    rw [← hst] at hI ⊢
    clear hst hx hcu
    generalize trimL (linesB s)[k] = l at *
    by_cases hi : 0 ≤ Lib.index l colS
    · obtain ⟨i, hi'⟩ : ∃ i : Nat, Lib.index l colS = (i : Int) := ⟨(Lib.index l colS).toNat, by omega⟩
      have hroom := Lib.index_room l colS hi
      rw [hi', show colS.length = 2 from rfl] at hroom
      rw [cut_pos hi'] at hI
      simp only [Bool.true_eq_false, if_false] at hI
      rw [hi'] at n1
      have hll : (strL l).size = l.length := strL_size l
      have b1 : decide ((i : Int) < 0) = false := decide_eq_false (by omega)
      have w2 : IntKind.i64.wrap ((i : Int) + 2) = (i : Int) + 2 := wrap_i64 (by omega)
      have f1 : 0 ≤ (0 : Int) ∧ (0 : Int) ≤ (i : Int) ∧ (i : Int) ≤ ((strL l).size : Int) := by omega
      have f2 : 0 ≤ IntKind.i64.wrap ((i : Int) + 2) ∧ IntKind.i64.wrap ((i : Int) + 2) ≤ ((strL l).size : Int) ∧ ((strL l).size : Int) ≤ ((strL l).size : Int) := by rw [w2]; omega
      have e1 : (strL l).extract 0 (Int.toNat (i : Int)) = strL (l.take i) := by rw [Int.toNat_natCast]; exact str_take l i
      have e2 : (strL l).extract (IntKind.i64.wrap ((i : Int) + 2)).toNat (strL l).size = strL (l.drop (i + 2)) := by
        rw [w2, show ((i : Int) + 2).toNat = i + 2 from by omega, hll]; exact str_drop l (i + 2) _ rfl
      have n2 := r37_which (strL (l.take i)) (by rw [strL_size, List.length_take]; omega)
      rw [strL_list, ← e1] at n2
      generalize l.take i = name at *
      have m0 := r37_code (strL (l.drop (i + 2))) (by rw [strL_size, List.length_drop]; omega)
      have m1 := r37_Unquote (strL (l.drop (i + 2))) (by rw [strL_size, List.length_drop]; omega)
      have m2 := r37_wait (strL (l.drop (i + 2))) (by rw [strL_size, List.length_drop]; omega)
      rw [strL_list, ← e2] at m0 m1 m2
      generalize l.drop (i + 2) = rest at *
      have hk3 : kindN name = 0 ∨ kindN name = 1 ∨ kindN name = 2 ∨ kindN name = 3 := by unfold kindN; (repeat' split) <;> simp
      rcases hk3 with hk | hk | hk | hk
      · rw [hk] at n2 hI
        have n2 : Fv Try.prog 69 [.str ((strL l).extract 0 (Int.toNat (i : Int)))] (.int .i64 0) := n2
        have g1 : 0 ≤ (0 : Int) ∧ (0 : Int) < ((4 : Nat) : Int) ∧ [bR h0, bR h1, bR h2, bR h3][0 + Int.toNat 0]? = some (bR h0) := ⟨by decide, by decide, rfl⟩
        have g2 := g1.2.2
        have g3 : [bR h0, bR h1, bR h2, bR h3][0 + Int.toNat 0]? = some (bR h0) ∧ 0 + Try.prog.cellsOf 4 ≤ (bR h0).length := ⟨rfl, by rw [show Try.prog.cellsOf 4 = 1 from by kernel_rfl]; exact Nat.le_refl _⟩
        cases h0 with
        | true =>
          have e : t0 = (tr0, IntKind.i64.wrap ((k : Int) + 1), 8) := by rw [hI, w1]; rfl
          rw [e]
          refine awp_go ?_
          repeat' (conv => whnf
                   first
                   | (refine And.intro (Or.inl (by kernel_rfl)) ?_)
                   | (refine And.intro (by kernel_rfl) ?_)
                   | (refine And.intro ⟨by kernel_rfl, by kernel_rfl⟩ ?_)
                   | (refine cond_1 b0 ?_)
                   | (refine ⟨_, f0, ?_⟩)
                   | (refine Or.inl ⟨_, n1, ?_⟩)
                   | (refine ⟨_, n1, ?_⟩)
                   | (refine cond_0 b1 ?_)
                   | (refine ⟨f1, ?_⟩)
                   | (refine Or.inl ⟨_, n2, ?_⟩)
                   | (refine ⟨_, n2, ?_⟩)
                   | (refine ⟨f2, ?_⟩)
                   | (refine ⟨_, g1, ?_⟩)
                   | (refine ⟨_, g3, ?_⟩)
                   | (refine ⟨_, g2, ?_⟩)
                   | (refine cond_f ?_ ?_)
                   | (refine ⟨_, ⟨by decide, rfl⟩, ?_⟩)
                   | (refine cond_i (fun h => ?_) (fun h => ?_)))
          all_goals (conv => whnf)
          all_goals rfl
        | false =>
          have e : t0 = parseP ((linesB s).drop (k + 1)) ((k + 1 : Nat) : Int) { t with code := codeI rest } true h1 h2 := by rw [hI]; rfl
          refine awp_go ?_
          repeat' (conv => whnf
                   first
                   | (refine And.intro (Or.inl (by kernel_rfl)) ?_)
                   | (refine And.intro (by kernel_rfl) ?_)
                   | (refine And.intro ⟨by kernel_rfl, by kernel_rfl⟩ ?_)
                   | (refine cond_1 b0 ?_)
                   | (refine ⟨_, f0, ?_⟩)
                   | (refine Or.inl ⟨_, n1, ?_⟩)
                   | (refine ⟨_, n1, ?_⟩)
                   | (refine cond_0 b1 ?_)
                   | (refine ⟨f1, ?_⟩)
                   | (refine Or.inl ⟨_, n2, ?_⟩)
                   | (refine ⟨_, n2, ?_⟩)
                   | (refine ⟨f2, ?_⟩)
                   | (refine ⟨_, g1, ?_⟩)
                   | (refine ⟨_, g3, ?_⟩)
                   | (refine ⟨_, g2, ?_⟩)
                   | (refine Or.inl ⟨_, m0, ?_⟩)
                   | (refine ⟨_, m0, ?_⟩)
                   | (refine Or.inl ⟨_, m1, ?_⟩)
                   | (refine ⟨_, m1, ?_⟩)
                   | (refine Or.inl ⟨_, m2, ?_⟩)
                   | (refine ⟨_, m2, ?_⟩)
                   | (refine cond_f ?_ ?_)
                   | (refine ⟨_, ⟨by decide, rfl⟩, ?_⟩)
                   | (refine cond_i (fun h => ?_) (fun h => ?_)))
          all_goals (conv => whnf)
          exact ⟨({ t with code := codeI rest }, true, h1, h2, h3), _, rfl, e, w1⟩
      · rw [hk] at n2 hI
        have n2 : Fv Try.prog 69 [.str ((strL l).extract 0 (Int.toNat (i : Int)))] (.int .i64 1) := n2
        have g1 : 0 ≤ (1 : Int) ∧ (1 : Int) < ((4 : Nat) : Int) ∧ [bR h0, bR h1, bR h2, bR h3][0 + Int.toNat 1]? = some (bR h1) := ⟨by decide, by decide, rfl⟩
        have g2 := g1.2.2
        have g3 : [bR h0, bR h1, bR h2, bR h3][0 + Int.toNat 1]? = some (bR h1) ∧ 0 + Try.prog.cellsOf 4 ≤ (bR h1).length := ⟨rfl, by rw [show Try.prog.cellsOf 4 = 1 from by kernel_rfl]; exact Nat.le_refl _⟩
        cases h1 with
        | true =>
          have e : t0 = (tr0, IntKind.i64.wrap ((k : Int) + 1), 8) := by rw [hI, w1]; rfl
          rw [e]
          refine awp_go ?_
          repeat' (conv => whnf
                   first
                   | (refine And.intro (Or.inl (by kernel_rfl)) ?_)
                   | (refine And.intro (by kernel_rfl) ?_)
                   | (refine And.intro ⟨by kernel_rfl, by kernel_rfl⟩ ?_)
                   | (refine cond_1 b0 ?_)
                   | (refine ⟨_, f0, ?_⟩)
                   | (refine Or.inl ⟨_, n1, ?_⟩)
                   | (refine ⟨_, n1, ?_⟩)
                   | (refine cond_0 b1 ?_)
                   | (refine ⟨f1, ?_⟩)
                   | (refine Or.inl ⟨_, n2, ?_⟩)
                   | (refine ⟨_, n2, ?_⟩)
                   | (refine ⟨f2, ?_⟩)
                   | (refine ⟨_, g1, ?_⟩)
                   | (refine ⟨_, g3, ?_⟩)
                   | (refine ⟨_, g2, ?_⟩)
                   | (refine cond_f ?_ ?_)
                   | (refine ⟨_, ⟨by decide, rfl⟩, ?_⟩)
                   | (refine cond_i (fun h => ?_) (fun h => ?_)))
          all_goals (conv => whnf)
          all_goals rfl
        | false =>
          have e : t0 = parseP ((linesB s).drop (k + 1)) ((k + 1 : Nat) : Int) { t with msg := strL (unqL rest) } h0 true h2 := by rw [hI]; rfl
          refine awp_go ?_
          repeat' (conv => whnf
                   first
                   | (refine And.intro (Or.inl (by kernel_rfl)) ?_)
                   | (refine And.intro (by kernel_rfl) ?_)
                   | (refine And.intro ⟨by kernel_rfl, by kernel_rfl⟩ ?_)
                   | (refine cond_1 b0 ?_)
                   | (refine ⟨_, f0, ?_⟩)
                   | (refine Or.inl ⟨_, n1, ?_⟩)
                   | (refine ⟨_, n1, ?_⟩)
                   | (refine cond_0 b1 ?_)
                   | (refine ⟨f1, ?_⟩)
                   | (refine Or.inl ⟨_, n2, ?_⟩)
                   | (refine ⟨_, n2, ?_⟩)
                   | (refine ⟨f2, ?_⟩)
                   | (refine ⟨_, g1, ?_⟩)
                   | (refine ⟨_, g3, ?_⟩)
                   | (refine ⟨_, g2, ?_⟩)
                   | (refine Or.inl ⟨_, m0, ?_⟩)
                   | (refine ⟨_, m0, ?_⟩)
                   | (refine Or.inl ⟨_, m1, ?_⟩)
                   | (refine ⟨_, m1, ?_⟩)
                   | (refine Or.inl ⟨_, m2, ?_⟩)
                   | (refine ⟨_, m2, ?_⟩)
                   | (refine cond_f ?_ ?_)
                   | (refine ⟨_, ⟨by decide, rfl⟩, ?_⟩)
                   | (refine cond_i (fun h => ?_) (fun h => ?_)))
          all_goals (conv => whnf)
          exact ⟨({ t with msg := strL (unqL rest) }, h0, true, h2, h3), _, rfl, e, w1⟩
      · rw [hk] at n2 hI
        have n2 : Fv Try.prog 69 [.str ((strL l).extract 0 (Int.toNat (i : Int)))] (.int .i64 2) := n2
        have g1 : 0 ≤ (2 : Int) ∧ (2 : Int) < ((4 : Nat) : Int) ∧ [bR h0, bR h1, bR h2, bR h3][0 + Int.toNat 2]? = some (bR h2) := ⟨by decide, by decide, rfl⟩
        have g2 := g1.2.2
        have g3 : [bR h0, bR h1, bR h2, bR h3][0 + Int.toNat 2]? = some (bR h2) ∧ 0 + Try.prog.cellsOf 4 ≤ (bR h2).length := ⟨rfl, by rw [show Try.prog.cellsOf 4 = 1 from by kernel_rfl]; exact Nat.le_refl _⟩
        cases h2 with
        | true =>
          have e : t0 = (tr0, IntKind.i64.wrap ((k : Int) + 1), 8) := by rw [hI, w1]; rfl
          rw [e]
          refine awp_go ?_
          repeat' (conv => whnf
                   first
                   | (refine And.intro (Or.inl (by kernel_rfl)) ?_)
                   | (refine And.intro (by kernel_rfl) ?_)
                   | (refine And.intro ⟨by kernel_rfl, by kernel_rfl⟩ ?_)
                   | (refine cond_1 b0 ?_)
                   | (refine ⟨_, f0, ?_⟩)
                   | (refine Or.inl ⟨_, n1, ?_⟩)
                   | (refine ⟨_, n1, ?_⟩)
                   | (refine cond_0 b1 ?_)
                   | (refine ⟨f1, ?_⟩)
                   | (refine Or.inl ⟨_, n2, ?_⟩)
                   | (refine ⟨_, n2, ?_⟩)
                   | (refine ⟨f2, ?_⟩)
                   | (refine ⟨_, g1, ?_⟩)
                   | (refine ⟨_, g3, ?_⟩)
                   | (refine ⟨_, g2, ?_⟩)
                   | (refine cond_f ?_ ?_)
                   | (refine ⟨_, ⟨by decide, rfl⟩, ?_⟩)
                   | (refine cond_i (fun h => ?_) (fun h => ?_)))
          all_goals (conv => whnf)
          all_goals rfl
        | false =>
          have e : t0 = parseP ((linesB s).drop (k + 1)) ((k + 1 : Nat) : Int) { t with push := numI rest 7 } h0 h1 true := by rw [hI]; rfl
          refine awp_go ?_
          repeat' (conv => whnf
                   first
                   | (refine And.intro (Or.inl (by kernel_rfl)) ?_)
                   | (refine And.intro (by kernel_rfl) ?_)
                   | (refine And.intro ⟨by kernel_rfl, by kernel_rfl⟩ ?_)
                   | (refine cond_1 b0 ?_)
                   | (refine ⟨_, f0, ?_⟩)
                   | (refine Or.inl ⟨_, n1, ?_⟩)
                   | (refine ⟨_, n1, ?_⟩)
                   | (refine cond_0 b1 ?_)
                   | (refine ⟨f1, ?_⟩)
                   | (refine Or.inl ⟨_, n2, ?_⟩)
                   | (refine ⟨_, n2, ?_⟩)
                   | (refine ⟨f2, ?_⟩)
                   | (refine ⟨_, g1, ?_⟩)
                   | (refine ⟨_, g3, ?_⟩)
                   | (refine ⟨_, g2, ?_⟩)
                   | (refine Or.inl ⟨_, m0, ?_⟩)
                   | (refine ⟨_, m0, ?_⟩)
                   | (refine Or.inl ⟨_, m1, ?_⟩)
                   | (refine ⟨_, m1, ?_⟩)
                   | (refine Or.inl ⟨_, m2, ?_⟩)
                   | (refine ⟨_, m2, ?_⟩)
                   | (refine cond_f ?_ ?_)
                   | (refine ⟨_, ⟨by decide, rfl⟩, ?_⟩)
                   | (refine cond_i (fun h => ?_) (fun h => ?_)))
          all_goals (conv => whnf)
          exact ⟨({ t with push := numI rest 7 }, h0, h1, true, h3), _, rfl, e, w1⟩
      · rw [hk] at n2 hI
        have n2 : Fv Try.prog 69 [.str ((strL l).extract 0 (Int.toNat (i : Int)))] (.int .i64 3) := n2
        have g1 : 0 ≤ (3 : Int) ∧ (3 : Int) < ((4 : Nat) : Int) ∧ [bR h0, bR h1, bR h2, bR h3][0 + Int.toNat 3]? = some (bR h3) := ⟨by decide, by decide, rfl⟩
        have g2 := g1.2.2
        have g3 : [bR h0, bR h1, bR h2, bR h3][0 + Int.toNat 3]? = some (bR h3) ∧ 0 + Try.prog.cellsOf 4 ≤ (bR h3).length := ⟨rfl, by rw [show Try.prog.cellsOf 4 = 1 from by kernel_rfl]; exact Nat.le_refl _⟩
        have e : t0 = parseP ((linesB s).drop (k + 1)) ((k + 1 : Nat) : Int) t h0 h1 h2 := by rw [hI]; rfl
        refine awp_go ?_
        repeat' (conv => whnf
                 first
                 | (refine And.intro (Or.inl (by kernel_rfl)) ?_)
                 | (refine And.intro (by kernel_rfl) ?_)
                 | (refine And.intro ⟨by kernel_rfl, by kernel_rfl⟩ ?_)
                 | (refine cond_1 b0 ?_)
                 | (refine ⟨_, f0, ?_⟩)
                 | (refine Or.inl ⟨_, n1, ?_⟩)
                 | (refine ⟨_, n1, ?_⟩)
                 | (refine cond_0 b1 ?_)
                 | (refine ⟨f1, ?_⟩)
                 | (refine Or.inl ⟨_, n2, ?_⟩)
                 | (refine ⟨_, n2, ?_⟩)
                 | (refine ⟨f2, ?_⟩)
                 | (refine ⟨_, g1, ?_⟩)
                 | (refine ⟨_, g3, ?_⟩)
                 | (refine ⟨_, g2, ?_⟩)
                 | (refine Or.inl ⟨_, m0, ?_⟩)
                 | (refine ⟨_, m0, ?_⟩)
                 | (refine Or.inl ⟨_, m1, ?_⟩)
                 | (refine ⟨_, m1, ?_⟩)
                 | (refine Or.inl ⟨_, m2, ?_⟩)
                 | (refine ⟨_, m2, ?_⟩)
                 | (refine cond_f ?_ ?_)
                 | (refine ⟨_, ⟨by decide, rfl⟩, ?_⟩)
                 | (refine cond_i (fun h => ?_) (fun h => ?_)))
        all_goals (conv => whnf)
        exact ⟨(t, h0, h1, h2, true), _, rfl, e, w1⟩
    · rw [cut_neg hi] at hI
      simp only [if_true] at hI
      have b1 : decide (Lib.index l colS < 0) = true := decide_eq_true (by omega)
      have e : t0 = (tr0, IntKind.i64.wrap ((k : Int) + 1), 5) := by rw [hI, w1]
      rw [e]
      refine awp_go ?_
      repeat' (conv => whnf
               first
               | (refine And.intro (Or.inl (by kernel_rfl)) ?_)
               | (refine And.intro (by kernel_rfl) ?_)
               | (refine And.intro ⟨by kernel_rfl, by kernel_rfl⟩ ?_)
               | (refine cond_1 b0 ?_)
               | (refine ⟨_, f0, ?_⟩)
               | (refine Or.inl ⟨_, n1, ?_⟩)
               | (refine ⟨_, n1, ?_⟩)
               | (refine cond_1 b1 ?_)
               | (refine cond_f ?_ ?_)
               | (refine ⟨_, ⟨by decide, rfl⟩, ?_⟩)
               | (refine cond_i (fun h => ?_) (fun h => ?_)))
      all_goals (conv => whnf)
      all_goals rfl
  · obtain ⟨t, h0, h1, h2, h3⟩ := b
    simp only at hI
    rw [List.drop_length, parseP] at hI
    rw [hI]
    have b0 : decide ((((linesB s).length : Nat) : Int) < ((((lnL s.data.toList).map strR).length : Nat) : Int)) = false := decide_eq_false (by rw [List.length_map, hLn]; omega)
    have g1 : 0 ≤ (0 : Int) ∧ (0 : Int) < ((4 : Nat) : Int) ∧ [bR h0, bR h1, bR h2, bR h3][0 + Int.toNat 0]? = some (bR h0) := ⟨by decide, by decide, rfl⟩
    have g2 := g1.2.2
    cases h0 with
    | true =>
      refine awp_go ?_
      repeat' (conv => whnf
               first
               | (refine And.intro (Or.inl (by kernel_rfl)) ?_)
               | (refine And.intro (by kernel_rfl) ?_)
               | (refine And.intro ⟨by kernel_rfl, by kernel_rfl⟩ ?_)
               | (refine cond_0 b0 ?_)
               | (refine ⟨_, g1, ?_⟩)
               | (refine ⟨_, g2, ?_⟩)
               | (refine cond_f ?_ ?_)
               | (refine ⟨_, ⟨by decide, rfl⟩, ?_⟩)
               | (refine cond_i (fun h => ?_) (fun h => ?_)))
      all_goals (conv => whnf)
      all_goals rfl
    | false =>
      refine awp_go ?_
      repeat' (conv => whnf
               first
               | (refine And.intro (Or.inl (by kernel_rfl)) ?_)
               | (refine And.intro (by kernel_rfl) ?_)
               | (refine And.intro ⟨by kernel_rfl, by kernel_rfl⟩ ?_)
               | (refine cond_0 b0 ?_)
               | (refine ⟨_, g1, ?_⟩)
               | (refine ⟨_, g2, ?_⟩)
               | (refine cond_f ?_ ?_)
               | (refine ⟨_, ⟨by decide, rfl⟩, ?_⟩)
               | (refine cond_i (fun h => ?_) (fun h => ?_)))
      all_goals (conv => whnf)
      all_goals rfl
end Go.Proofs.Ytijohhdgecadnaa.Cn
namespace Go.Proofs.Ytijohhdgecadnaa.Cn
open Go Go.Proofs Go.Proofs.Ytijohhdgecadnaa.Av Go.Proofs.Ytijohhdgecadnaa.Sp Go.RowKit
set_option linter.unusedVariables false
set_option linter.unusedSimpArgs false
set_option linter.unusedSectionVars false
set_option maxRecDepth 100000
attribute [local irreducible] Fv Fp

def awS : ByteArray := ⟨#[83, 116, 97, 116, 117, 115, 58, 32, 49, 52, 10, 109, 101, 115, 115, 97, 103, 101, 58, 32, 97, 37, 50, 53, 98, 10, 112, 117, 115, 104, 98, 97, 99, 107, 58, 32, 52, 48, 10]⟩
theorem aw_lines : linesL awS.data.toList = [[83, 116, 97, 116, 117, 115, 58, 32, 49, 52, 10], [109, 101, 115, 115, 97, 103, 101, 58, 32, 97, 37, 50, 53, 98, 10], [112, 117, 115, 104, 98, 97, 99, 107, 58, 32, 52, 48, 10]] := by decide +kernel
theorem aw_cut1 : cutL (strL [83, 116, 97, 116, 117, 115, 58, 32, 49, 52, 10]) = ([83, 116, 97, 116, 117, 115], [49, 52], true) := by decide +kernel
theorem aw_cut2 : cutL (strL [109, 101, 115, 115, 97, 103, 101, 58, 32, 97, 37, 50, 53, 98, 10]) = ([109, 101, 115, 115, 97, 103, 101], [97, 37, 50, 53, 98], true) := by decide +kernel
theorem aw_cut3 : cutL (strL [112, 117, 115, 104, 98, 97, 99, 107, 58, 32, 52, 48, 10]) = ([112, 117, 115, 104, 98, 97, 99, 107], [52, 48], true) := by decide +kernel
theorem aw_k1 : kindN [83, 116, 97, 116, 117, 115] = 0 := by decide +kernel
theorem aw_k2 : kindN [109, 101, 115, 115, 97, 103, 101] = 1 := by decide +kernel
theorem aw_k3 : kindN [112, 117, 115, 104, 98, 97, 99, 107] = 2 := by decide +kernel
theorem aw_v1 : codeI [49, 52] = 14 := by decide +kernel
theorem aw_v2 : unqL [97, 37, 50, 53, 98] = [97, 37, 98] := by decide +kernel
theorem aw_v3 : numI [52, 48] 7 = 40 := by decide +kernel
theorem aw_parse : parseT awS = (⟨14, ⟨#[97, 37, 98]⟩, 40⟩, 0, 0) := by
  unfold parseT linesB
  rw [aw_lines]
  simp only [List.map_cons, List.map_nil]
  rw [parseP, aw_cut1]
  simp only [aw_k1, aw_v1, Bool.true_eq_false, if_false, if_true, Bool.false_eq_true]
  rw [parseP, aw_cut2]
  simp only [aw_k2, aw_v2, Bool.true_eq_false, if_false, if_true, Bool.false_eq_true, Nat.one_ne_zero]
  rw [parseP, aw_cut3]
  simp only [aw_k3, aw_v3, Bool.true_eq_false, if_false, if_true, Bool.false_eq_true, show ¬ (2 : Nat) = 0 from by decide, show ¬ (2 : Nat) = 1 from by decide]
  rw [parseP]
  rfl
theorem aw_quote : strL (quoteL [97, 37, 98, 10]) = ⟨#[97, 37, 50, 53, 98, 37, 48, 65]⟩ := by kernel_rfl
theorem aw_walk (q : Trl × Int × Int) (x : ByteArray) (n1 : Fv Try.prog 47 [.str awS] (resG q)) (n2 : Fv Try.prog 43 [.str ⟨#[97, 37, 98, 10]⟩] (.str x))
    (b1 : strEq x ⟨#[97, 37, 50, 53, 98, 37, 48, 65]⟩ = true) (b2 : (q.2.2 == 0) = true) (b3 : (q.2.1 == 0) = true) (b4 : (q.1.code == 14 && (strEq q.1.msg ⟨#[97, 37, 98]⟩ && (q.1.push == 40 && true))) = true) : Fv Try.prog 42 [] (.bool true) := by
  refine Fv.of_awp Try.func42 rfl (by kernel_rfl) rfl (Nat.le_of_ble_eq_true rfl) ?_
  repeat' (conv => whnf
           first
           | (refine And.intro (Or.inl (by kernel_rfl)) ?_)
           | (refine And.intro (by kernel_rfl) ?_)
           | (refine And.intro ⟨by kernel_rfl, by kernel_rfl⟩ ?_)
           | (refine Or.inl ⟨_, n1, ?_⟩)
           | (refine ⟨_, n1, ?_⟩)
           | (refine Or.inl ⟨_, n2, ?_⟩)
           | (refine ⟨_, n2, ?_⟩)
           | (refine cond_1 b1 ?_)
           | (refine cond_1 b2 ?_)
           | (refine cond_1 b3 ?_)
           | (refine cond_f ?_ ?_)
           | (refine ⟨_, ⟨by decide, rfl⟩, ?_⟩)
           | (refine cond_i (fun h => ?_) (fun h => ?_)))
  all_goals (conv => whnf)
  all_goals exact congrArg G.bool b4
theorem law37_awake : Fv Try.prog 42 [] (.bool true) := by
  refine aw_walk _ _ (hd_Parse awS (by decide)) (hd_Quote ⟨#[97, 37, 98, 10]⟩ (by decide)) ?_ ?_ ?_ ?_
  · rw [show (⟨#[97, 37, 98, 10]⟩ : ByteArray).data.toList = [97, 37, 98, 10] from rfl, aw_quote]; exact strEq_self _
  · rw [aw_parse]; rfl
  · rw [aw_parse]; rfl
  · rw [aw_parse]
    have e : strEq ⟨#[97, 37, 98]⟩ ⟨#[97, 37, 98]⟩ = true := strEq_self _
    simp only [e]
    rfl
theorem law37_HeaderQuotes (s : ByteArray) : Fv Try.prog 11 [.str s] (.bool true) := by
  have n0 := law37_awake
  by_cases h : s.size > 1000
  · have b0 : decide ((s.size : Int) > 1000) = true := decide_eq_true (by omega)
    refine Fv.of_awp Try.func11 rfl (by kernel_rfl) rfl (Nat.le_of_ble_eq_true rfl) ?_
    repeat' (conv => whnf
             first
             | (refine And.intro (Or.inl (by kernel_rfl)) ?_)
             | (refine And.intro (by kernel_rfl) ?_)
             | (refine And.intro ⟨by kernel_rfl, by kernel_rfl⟩ ?_)
             | (refine cond_1 b0 ?_)
             | (refine Or.inl ⟨_, n0, ?_⟩)
             | (refine ⟨_, n0, ?_⟩)
             | (refine cond_f ?_ ?_)
             | (refine ⟨_, ⟨by decide, rfl⟩, ?_⟩)
             | (refine cond_i (fun h => ?_) (fun h => ?_)))
    all_goals (conv => whnf)
    all_goals rfl
  · have b0 : decide ((s.size : Int) > 1000) = false := decide_eq_false (by omega)
    have n1 := hd_Quote s (by omega)
    have n2 := r37_Quote s (by omega)
    have n3 := hd_Unquote s (by omega)
    have n4 := r37_Unquote s (by omega)
    have b1 := strEq_self (strL (quoteL s.data.toList))
    have b2 := strEq_self (strL (unqL s.data.toList))
    refine Fv.of_awp Try.func11 rfl (by kernel_rfl) rfl (Nat.le_of_ble_eq_true rfl) ?_
    repeat' (conv => whnf
             first
             | (refine And.intro (Or.inl (by kernel_rfl)) ?_)
             | (refine And.intro (by kernel_rfl) ?_)
             | (refine And.intro ⟨by kernel_rfl, by kernel_rfl⟩ ?_)
             | (refine cond_0 b0 ?_)
             | (refine Or.inl ⟨_, n0, ?_⟩)
             | (refine ⟨_, n0, ?_⟩)
             | (refine Or.inl ⟨_, n1, ?_⟩)
             | (refine ⟨_, n1, ?_⟩)
             | (refine Or.inl ⟨_, n2, ?_⟩)
             | (refine ⟨_, n2, ?_⟩)
             | (refine Or.inl ⟨_, n3, ?_⟩)
             | (refine ⟨_, n3, ?_⟩)
             | (refine Or.inl ⟨_, n4, ?_⟩)
             | (refine ⟨_, n4, ?_⟩)
             | (refine cond_1 b1 ?_)
             | (refine cond_1 b2 ?_)
             | (refine cond_f ?_ ?_)
             | (refine ⟨_, ⟨by decide, rfl⟩, ?_⟩)
             | (refine cond_i (fun h => ?_) (fun h => ?_)))
    all_goals (conv => whnf)
    all_goals rfl
theorem law37_HeaderBack (s : ByteArray) : Fv Try.prog 12 [.str s] (.bool true) := by
  have n0 := law37_awake
  by_cases h : s.size > 1000
  · have b0 : decide ((s.size : Int) > 1000) = true := decide_eq_true (by omega)
    refine Fv.of_awp Try.func12 rfl (by kernel_rfl) rfl (Nat.le_of_ble_eq_true rfl) ?_
    repeat' (conv => whnf
             first
             | (refine And.intro (Or.inl (by kernel_rfl)) ?_)
             | (refine And.intro (by kernel_rfl) ?_)
             | (refine And.intro ⟨by kernel_rfl, by kernel_rfl⟩ ?_)
             | (refine cond_1 b0 ?_)
             | (refine Or.inl ⟨_, n0, ?_⟩)
             | (refine ⟨_, n0, ?_⟩)
             | (refine cond_f ?_ ?_)
             | (refine ⟨_, ⟨by decide, rfl⟩, ?_⟩)
             | (refine cond_i (fun h => ?_) (fun h => ?_)))
    all_goals (conv => whnf)
    all_goals rfl
  · have b0 : decide ((s.size : Int) > 1000) = false := decide_eq_false (by omega)
    have n1 := hd_Quote s (by omega)
    obtain ⟨q1, q2⟩ := quoteL_len s.data.toList
    have q3 := quoteL_range s.data.toList
    rw [size_list] at q1 q2
    have n2 := hd_Unquote (strL (quoteL s.data.toList)) (by rw [strL_size]; omega)
    rw [strL_list, unq_quote, strL_eq] at n2
    obtain ⟨q, hq⟩ : ∃ q, q = strL (quoteL s.data.toList) := ⟨_, rfl⟩
    have hqs : q.size = (quoteL s.data.toList).length := by rw [hq, strL_size]
    have hqr : ∀ k, k < q.size → 32 ≤ byteAt q k ∧ byteAt q k ≤ 126 := fun k hk => by
      have hl : k < (quoteL s.data.toList).length := by omega
      have e : byteAt q k = (((quoteL s.data.toList)[k]).toNat : Int) := by rw [hq, byteAt_strL, List.getD_eq_getElem?_getD, List.getElem?_eq_getElem hl]; rfl
      have := q3 _ (List.getElem_mem hl)
      rw [e]; omega
    rw [← hq] at n1 n2
    clear hq q3
    refine Fv.of_awp Try.func12 rfl (by kernel_rfl) rfl (Nat.le_of_ble_eq_true rfl) ?_
    repeat' (conv => whnf
             first
             | (refine And.intro (Or.inl (by kernel_rfl)) ?_)
             | (refine And.intro (by kernel_rfl) ?_)
             | (refine And.intro ⟨by kernel_rfl, by kernel_rfl⟩ ?_)
             | (refine cond_0 b0 ?_)
             | (refine Or.inl ⟨_, n1, ?_⟩)
             | (refine ⟨_, n1, ?_⟩)
             | (refine cond_f ?_ ?_)
             | (refine ⟨_, ⟨by decide, rfl⟩, ?_⟩)
             | (refine cond_i (fun h => ?_) (fun h => ?_)))
    all_goals (conv => whnf)
    refine Has.each [0, 3, 4] [] q.size (fun k (b : Unit) => True) (fun b i => St.of 49 [(0, .str s), (3, .str q), (4, .int .i64 i)] [] []) ⟨(), 0, rfl, trivial, rfl⟩ (fun k b hk hI => ?_) (fun b hI => ?_)
    · have c0 : decide ((k : Int) < (q.size : Int)) = true := decide_eq_true (by omega)
      have f0 : 0 ≤ (k : Int) ∧ (k : Int) < (q.size : Int) := by omega
      obtain ⟨r1, r2⟩ := hqr k hk
      have t1 : decide (byteAt q k < 32) = false := decide_eq_false (by omega)
      have t2 : decide (byteAt q k > 126) = false := decide_eq_false (by omega)
      refine awp_go ?_
      repeat' (conv => whnf
               first
               | (refine And.intro (Or.inl (by kernel_rfl)) ?_)
               | (refine And.intro (by kernel_rfl) ?_)
               | (refine And.intro ⟨by kernel_rfl, by kernel_rfl⟩ ?_)
               | (refine cond_1 c0 ?_)
               | (refine ⟨f0, ?_⟩)
               | (refine cond_0 t1 ?_)
               | (refine cond_0 t2 ?_)
               | (refine cond_f ?_ ?_)
               | (refine ⟨_, ⟨by decide, rfl⟩, ?_⟩)
               | (refine cond_i (fun h => ?_) (fun h => ?_)))
      all_goals (conv => whnf)
      exact ⟨(), _, rfl, trivial, wrap_i64 (by omega)⟩
    · have c0 : decide ((q.size : Int) < (q.size : Int)) = false := decide_eq_false (by omega)
      have b1 := strEq_self s
      have t3 : decide ((q.size : Int) ≥ (s.size : Int)) = true := decide_eq_true (by omega)
      have t4 : decide ((q.size : Int) ≤ IntKind.i64.wrap (3 * (s.size : Int))) = true := decide_eq_true (by rw [wrap_i64 (by omega)]; omega)
      refine awp_go ?_
      repeat' (conv => whnf
               first
               | (refine And.intro (Or.inl (by kernel_rfl)) ?_)
               | (refine And.intro (by kernel_rfl) ?_)
               | (refine And.intro ⟨by kernel_rfl, by kernel_rfl⟩ ?_)
               | (refine cond_0 c0 ?_)
               | (refine Or.inl ⟨_, n2, ?_⟩)
               | (refine ⟨_, n2, ?_⟩)
               | (refine cond_1 b1 ?_)
               | (refine cond_1 t3 ?_)
               | (refine cond_1 t4 ?_)
               | (refine Or.inl ⟨_, n0, ?_⟩)
               | (refine ⟨_, n0, ?_⟩)
               | (refine cond_f ?_ ?_)
               | (refine ⟨_, ⟨by decide, rfl⟩, ?_⟩)
               | (refine cond_i (fun h => ?_) (fun h => ?_)))
      all_goals (conv => whnf)
      all_goals rfl
end Go.Proofs.Ytijohhdgecadnaa.Cn
namespace Go.Proofs.Ytijohhdgecadnaa.Cn
open Go Go.Proofs Go.Proofs.Ytijohhdgecadnaa.Av Go.Proofs.Ytijohhdgecadnaa.Sp Go.RowKit
set_option linter.unusedVariables false
set_option linter.unusedSimpArgs false
set_option linter.unusedSectionVars false
set_option maxRecDepth 100000
attribute [local irreducible] Fv Fp

theorem law37_mine (t : Trl) : Fv Try.prog 49 [.agg t.g] (.agg t.g) := by
  refine Fv.of_awp Try.func49 rfl (by kernel_rfl) rfl (Nat.le_of_ble_eq_true rfl) ?_
  repeat' (conv => whnf
           first
           | (refine And.intro (Or.inl (by kernel_rfl)) ?_)
           | (refine And.intro (by kernel_rfl) ?_)
           | (refine And.intro ⟨by kernel_rfl, by kernel_rfl⟩ ?_)
           | (refine cond_f ?_ ?_)
           | (refine ⟨_, ⟨by decide, rfl⟩, ?_⟩)
           | (refine cond_i (fun h => ?_) (fun h => ?_)))
  all_goals (conv => whnf)
  all_goals rfl
set_option maxHeartbeats 4000000 in
theorem pa_walk (s : ByteArray) (h : s.size ≤ 1000) (q : Trl × Int × Int) (n0 : Fv Try.prog 42 [] (.bool true)) (n1 : Fv Try.prog 47 [.str s] (resG q)) (n2 : Fv Try.prog 48 [.str s] (resG q)) :
    Fv Try.prog 13 [.str s] (.bool true) := by
  have b0 : decide ((s.size : Int) > 1000) = false := decide_eq_false (by omega)
  have n3 := law37_mine q.1
  have b1 : (q.1.code == q.1.code && (strEq q.1.msg q.1.msg && (q.1.push == q.1.push && true))) = true := by rw [strEq_self]; simp
  have b2 : (q.2.1 == q.2.1) = true := by simp
  have b3 : (q.2.2 == q.2.2) = true := by simp
  refine Fv.of_awp Try.func13 rfl (by kernel_rfl) rfl (Nat.le_of_ble_eq_true rfl) ?_
  repeat' (conv => whnf
           first
           | (refine And.intro (Or.inl (by kernel_rfl)) ?_)
           | (refine And.intro (by kernel_rfl) ?_)
           | (refine And.intro ⟨by kernel_rfl, by kernel_rfl⟩ ?_)
           | (refine cond_0 b0 ?_)
           | (refine Or.inl ⟨_, n0, ?_⟩)
           | (refine ⟨_, n0, ?_⟩)
           | (refine Or.inl ⟨_, n1, ?_⟩)
           | (refine ⟨_, n1, ?_⟩)
           | (refine Or.inl ⟨_, n2, ?_⟩)
           | (refine ⟨_, n2, ?_⟩)
           | (refine Or.inl ⟨_, n3, ?_⟩)
           | (refine ⟨_, n3, ?_⟩)
           | (refine cond_1 b1 ?_)
           | (refine cond_1 b2 ?_)
           | (refine cond_1 b3 ?_)
           | (refine cond_f ?_ ?_)
           | (refine ⟨_, ⟨by decide, rfl⟩, ?_⟩)
           | (refine cond_i (fun h => ?_) (fun h => ?_)))
  all_goals (conv => whnf)
  all_goals rfl
theorem law37_HeaderParses (s : ByteArray) : Fv Try.prog 13 [.str s] (.bool true) := by
  have n0 := law37_awake
  by_cases h : s.size > 1000
  · have b0 : decide ((s.size : Int) > 1000) = true := decide_eq_true (by omega)
    refine Fv.of_awp Try.func13 rfl (by kernel_rfl) rfl (Nat.le_of_ble_eq_true rfl) ?_
    repeat' (conv => whnf
             first
             | (refine And.intro (Or.inl (by kernel_rfl)) ?_)
             | (refine And.intro (by kernel_rfl) ?_)
             | (refine And.intro ⟨by kernel_rfl, by kernel_rfl⟩ ?_)
             | (refine cond_1 b0 ?_)
             | (refine Or.inl ⟨_, n0, ?_⟩)
             | (refine ⟨_, n0, ?_⟩)
             | (refine cond_f ?_ ?_)
             | (refine ⟨_, ⟨by decide, rfl⟩, ?_⟩)
             | (refine cond_i (fun h => ?_) (fun h => ?_)))
    all_goals (conv => whnf)
    all_goals rfl
  · exact pa_walk s (by omega) _ n0 (hd_Parse s (by omega)) (r37_Parse s (by omega))
end Go.Proofs.Ytijohhdgecadnaa.Cn
namespace Go.Proofs.Ytijohhdgecadnaa.Av
open Go Go.RowKit Go.Deep Go.ChangeShapes Go.WideShapes
set_option linter.unusedVariables false

/-- Nothing is the call's own. -/
def C0 : Cx := Cx.out (fun _ => False)
structure Reads (w : World) (gs : List G) (cs : List Value) : Prop where
  len : cs.length = gs.length
  one : ∀ v ∈ cs, v.oneCell' = true
  rep : ∀ (i : Nat) g v, gs[i]? = some g → cs[i]? = some v → Rep C0 w g v
/-- Whatever is read as a value of type T reads as R x, and F holds of x. -/
def Opens {α : Type} (P : Program) (T : TypeId) (R : α → List G) (n : Nat) (F : α → Prop) : Prop :=
  P.cellsOf T = n ∧ (∀ x, (R x).length = n ∧ ∀ g ∈ R x, g.closed0 = true) ∧ ∀ (H : Type) (enc : TypeId × Value → H) (w : World) (spare : Nat → Bool) (held : Bool) (fuel : Nat) (cs : List Value) (d : DataW H) (ps : List MemPlace),
    DataW.trod enc P w 0 spare held fuel T cs = some (d, ps) → (∀ n ∈ d.weights P T, n ≤ reachBytes) → ∃ x, Reads w (R x) cs ∧ F x

theorem reads_one {w : World} {g : G} {v : Value} (hr : Rep C0 w g v) (hv : v.oneCell' = true) : Reads w [g] [v] :=
  ⟨rfl, fun u hu => by simp at hu; subst hu; exact hv, fun i g' v' hg hv' => by
    cases i with
    | zero => simp at hg hv'; subst hg; subst hv'; exact hr
    | succ i => simp at hg⟩
theorem Opens.imp {α : Type} {P : Program} {T : TypeId} {R : α → List G} {n : Nat} {F F' : α → Prop} (h : Opens P T R n F) (hi : ∀ x, F x → F' x) : Opens P T R n F' :=
  ⟨h.1, h.2.1, fun H enc w spare held fuel cs d ps ht hn => by
    obtain ⟨x, hK, hF⟩ := h.2.2 H enc w spare held fuel cs d ps ht hn
    exact ⟨x, hK, hi x hF⟩⟩
theorem opens_int {P : Program} {T : TypeId} {ik : IntKind} (hu : P.underlying T = some (.int ik)) (hc : P.cellsOf T = 1) : Opens P T (fun x : Int => [G.int ik x]) 1 (fun x => (Lit.int ik x).wf = true) :=
  ⟨hc, fun x => ⟨rfl, fun g hg => by simp at hg; subst hg; rfl⟩, fun H enc w spare held fuel cs d ps h _ => by
    obtain ⟨n, rfl, _, hw⟩ := DataW.trod_int hu h
    exact ⟨n, reads_one (.int _ _) rfl, hw⟩⟩
theorem opens_bool {P : Program} {T : TypeId} (hu : P.underlying T = some .bool) (hc : P.cellsOf T = 1) : Opens P T (fun x : Bool => [G.bool x]) 1 (fun _ => True) :=
  ⟨hc, fun x => ⟨rfl, fun g hg => by simp at hg; subst hg; rfl⟩, fun H enc w spare held fuel cs d ps h _ => by
    obtain ⟨b, rfl, _⟩ := DataW.trod_bool hu h
    exact ⟨b, reads_one (.bool _) rfl, trivial⟩⟩
theorem opens_string {P : Program} {T : TypeId} (hu : P.underlying T = some .string) (hc : P.cellsOf T = 1) : Opens P T (fun x : ByteArray => [G.str x]) 1 (fun s => s.size ≤ 140737488351232) :=
  ⟨hc, fun x => ⟨rfl, fun g hg => by simp at hg; subst hg; rfl⟩, fun H enc w spare held fuel cs d ps h hn => by
    obtain ⟨s, rfl, hx, _⟩ := DataW.trod_string hu h
    obtain ⟨rfl, rfl⟩ := Prod.mk.inj hx
    refine ⟨s, reads_one (.str _) rfl, ?_⟩
    have h1 := hn s.data.toList.length (by unfold DataW.weights; exact List.mem_singleton.2 rfl)
    have e2 : s.data.toList.length = s.size := by rw [Array.length_toList]; rfl
    rw [e2] at h1; exact h1⟩

theorem weights_mem_all {H : Type} {P : Program} {e : TypeId} : ∀ {ds : List (DataW H)} {d : DataW H}, d ∈ ds → ∀ n ∈ d.weights P e, n ∈ DataW.weightsAll P e ds
  | d0 :: ds, d, hd, n, hn => by
    simp only [DataW.weightsAll, List.mem_append]
    rcases List.mem_cons.1 hd with rfl | h
    · exact Or.inl hn
    · exact Or.inr (weights_mem_all h n hn)
theorem build_list {α : Type} (p : Nat → α → Prop) : ∀ n, (∀ i, i < n → ∃ x, p i x) → ∃ xs : List α, xs.length = n ∧ ∀ (i : Nat) (x : α), xs[i]? = some x → p i x
  | 0, _ => ⟨[], rfl, fun i x h => by simp at h⟩
  | n + 1, h => by
    obtain ⟨xs, hl, hp⟩ := build_list p n (fun i hi => h i (by omega))
    obtain ⟨x, hx⟩ := h n (by omega)
    refine ⟨xs ++ [x], by simp [hl], fun i y hy => ?_⟩
    by_cases hi : i < n
    · exact hp i y (by rwa [List.getElem?_append_left (by omega)] at hy)
    · rw [List.getElem?_append_right (by omega)] at hy
      obtain ⟨hz, hq⟩ : i - xs.length = 0 ∧ y = x := by
        cases hz : i - xs.length with
        | zero => rw [hz] at hy; simp at hy; exact ⟨rfl, hy.symm⟩
        | succ j => rw [hz] at hy; simp at hy
      have hin : i = n := by omega
      rw [hin, hq]; exact hx

theorem cell_block {w : World} {a : Addr} {v : Value} (h : w.cell? a = some v) : a.spot = none ∧ a.block < w.heap.size := by
  unfold World.cell? at h
  split at h
  · rename_i c _ _ hb
    split at h
    · cases h
    · rename_i hs
      exact ⟨by simpa using hs, (Array.getElem?_eq_some_iff.1 hb).1⟩
  · cases h

theorem opens_slice {α : Type} {P : Program} {T e : TypeId} {R : α → List G} {n : Nat} {F : α → Prop} (hu : P.underlying T = some (.slice e)) (hc : P.cellsOf T = 1) (hE : Opens P e R (n + 1) F) :
    Opens P T (fun xs : List α => [G.sl (xs.map R)]) 1 (fun xs => (∀ x ∈ xs, F x) ∧ xs.length * P.bytesOf e ≤ 140737488351232) :=
  ⟨hc, fun x => ⟨rfl, fun g hg => by simp at hg; subst hg; rfl⟩, fun H enc w spare held fuel cs d ps h hn => by
    rcases open_slice hu h with ⟨rfl, hx⟩ | ⟨a, len, cap, m, f, D, Pl, rfl, hb, hl, hm, hmm, hx, hel⟩
    · exact ⟨[], reads_one (.slnil none 0 (fun _ => rfl)) rfl, fun x hx => by simp at hx, by simp⟩
    · obtain ⟨rfl, rfl⟩ := Prod.mk.inj hx
      have hlm : len ≤ m := by rw [hmm]; split <;> omega
      have e0 : reachBytes = 140737488351232 := rfl
      have hW : ∀ i, i < len → ∀ n ∈ (D i).weights P e, n ≤ reachBytes := fun i hi n hni => hn n (by
        simp only [DataW.weights, hu, List.mem_cons, List.mem_append]
        exact Or.inr (Or.inl (weights_mem_all (List.mem_map.2 ⟨i, by simpa using hi, rfl⟩) n hni)))
      have hS : (len + (m - len)) * P.bytesOf e ≤ reachBytes := hn _ (by
        simp only [DataW.weights, hu, List.mem_cons]
        left; simp)
      obtain ⟨xs, hlen, hp⟩ := build_list (fun i x => ∃ cs', w.cells? 0 (a.add (i * (n + 1))) (n + 1) = some cs' ∧ Reads w (R x) cs' ∧ F x) len (fun i hi => by
        obtain ⟨cs', h1, h2⟩ := hel i (by omega)
        obtain ⟨x, hK, hF⟩ := hE.2.2 H enc w spare held f cs' _ _ h2 (hW i hi)
        exact ⟨x, cs', by rw [← hE.1]; exact h1, hK, hF⟩)
      subst hlen
      refine ⟨xs, reads_one ?_ rfl, fun x hx => ?_, ?_⟩
      · by_cases h0 : xs = []
        · subst h0; exact .slnil (some a) cap (fun e => by cases e)
        obtain ⟨x0, ys, rfl⟩ := List.exists_cons_of_ne_nil h0
        obtain ⟨hs, hlt⟩ : a.spot = none ∧ a.block < w.heap.size := by
          obtain ⟨cs', h1, hK, _⟩ := hp 0 x0 rfl
          obtain ⟨_, hl', hcc⟩ := World.cells?_some h1
          have := hcc 0 (by omega)
          rw [List.getElem?_eq_getElem (by omega)] at this
          have e1 : (a.add (0 * (n + 1))).add 0 = a := by simp [Addr.add]
          rw [e1] at this
          exact cell_block this
        generalize hxs : x0 :: ys = xs at *
        have hlm' : (xs.map R).length = xs.length := by simp
        rw [← hlm']
        refine .sl (xs.map R) a cap (n + 1) (fun i j => (w.cell? ⟨a.block, a.off + i * (n + 1) + j, none⟩).getD undef) hs hlt (fun h => h) (by rw [hlm']; omega) (fun r hr => ?_) (fun r hr g hg => ?_) (fun i r j g h1 h2 => ?_) (fun i r j g h1 h2 => ?_)
        · obtain ⟨x, _, rfl⟩ := List.mem_map.1 hr; exact (hE.2.1 x).1
        · obtain ⟨x, _, rfl⟩ := List.mem_map.1 hr; exact (hE.2.1 x).2 g hg
        all_goals
          rw [List.getElem?_map] at h1
          obtain ⟨x, hx, rfl⟩ := Option.map_eq_some_iff.1 h1
          obtain ⟨cs', q1, hK, _⟩ := hp i x hx
          obtain ⟨_, hl', hcc⟩ := World.cells?_some q1
          have hj : j < n + 1 := by rw [← (hE.2.1 x).1]; exact (List.getElem?_eq_some_iff.1 h2).1
          have hq := hcc j hj
          have ea : (a.add (i * (n + 1))).add j = ⟨a.block, a.off + i * (n + 1) + j, none⟩ := by
            rw [Deep.add_add]
            unfold Addr.add
            obtain ⟨ab, ao, asp⟩ := a
            simp only at hs; subst hs
            split
            · rename_i hz; simp [show i * (n + 1) = 0 by omega, show j = 0 by omega]
            · simp [Nat.add_assoc]
          rw [ea, List.getElem?_eq_getElem (by omega)] at hq
          rw [hq]
        · rfl
        · exact hK.rep j g _ h2 (List.getElem?_eq_getElem (by omega))
      · obtain ⟨i, hi⟩ := List.mem_iff_getElem?.1 hx
        obtain ⟨_, _, _, hF⟩ := hp i x hi
        exact hF
      · have : xs.length * P.bytesOf e ≤ (xs.length + (m - xs.length)) * P.bytesOf e := Nat.mul_le_mul_right _ (by omega)
        omega⟩

def OpensFs {α : Type} (P : Program) (fs : List Field) (off : Nat) (R : α → List G) (n : Nat) (F : α → Prop) : Prop :=
  (∀ x, (R x).length = n ∧ ∀ g ∈ R x, g.closed0 = true) ∧ ∀ (H : Type) (enc : TypeId × Value → H) (w : World) (spare : Nat → Bool) (held : Bool) (m : Nat) (cs : List Value) (xs : List (DataW H × List MemPlace)), cs.length = off + n → xs.length = fs.length →
    (∀ (i : Nat) (f : Field), fs[i]? = some f → DataW.trod enc P w 0 spare held m f.type ((cs.drop f.offset).take (P.cellsOf f.type)) = xs[i]?) →
    (∀ n ∈ DataW.weightsEach P (fs.map (·.type)) (xs.map (·.1)), n ≤ reachBytes) → ∃ x, Reads w (R x) (cs.drop off) ∧ F x
theorem fs_one {α : Type} {P : Program} {f : Field} {off : Nat} {R : α → List G} {n : Nat} {F : α → Prop} (ho : f.offset = off) (hO : Opens P f.type R n F) : OpensFs P [f] off R n F :=
  ⟨hO.2.1, fun H enc w spare held m cs xs hc hx hr hn => by
    subst ho
    match xs, hx with
    | [y], _ =>
      have h0 := hr 0 f rfl
      rw [hO.1, List.take_of_length_le (by rw [List.length_drop]; omega)] at h0
      exact hO.2.2 H enc w spare held m _ y.1 y.2 h0 (fun m hm => hn m (by simpa [DataW.weightsEach] using hm))⟩
theorem Reads.append {w : World} {gs hs : List G} {cs ds : List Value} (h : Reads w gs cs) (h' : Reads w hs ds) : Reads w (gs ++ hs) (cs ++ ds) :=
  ⟨by simp [h.len, h'.len], fun v hv => (List.mem_append.1 hv).elim (h.one v) (h'.one v), fun i g v hg hv => by
    by_cases hi : i < gs.length
    · rw [List.getElem?_append_left hi] at hg
      rw [List.getElem?_append_left (by rw [h.len]; exact hi)] at hv
      exact h.rep i g v hg hv
    · rw [List.getElem?_append_right (by omega)] at hg
      rw [List.getElem?_append_right (by rw [h.len]; omega), h.len] at hv
      exact h'.rep _ g v hg hv⟩
theorem fs_cons {α β : Type} {P : Program} {f : Field} {fs : List Field} {off off' : Nat} {R : α → List G} {R' : β → List G} {n n' : Nat} {F : α → Prop} {F' : β → Prop} (ho : f.offset = off) (ho' : off + n = off') (hO : Opens P f.type R n F) (hR : OpensFs P fs off' R' n' F') :
    OpensFs P (f :: fs) off (fun x : α × β => R x.1 ++ R' x.2) (n + n') (fun x => F x.1 ∧ F' x.2) :=
  ⟨fun x => ⟨by rw [List.length_append, (hO.2.1 x.1).1, (hR.1 x.2).1], fun g hg => (List.mem_append.1 hg).elim ((hO.2.1 x.1).2 g) ((hR.1 x.2).2 g)⟩, fun H enc w spare held m cs xs hc hx hr hn => by
    subst ho; subst ho'
    match xs, hx with
    | y :: ys, hx =>
      have h0 := hr 0 f rfl
      rw [hO.1] at h0
      obtain ⟨a, hK, hF⟩ := hO.2.2 H enc w spare held m _ y.1 y.2 h0 (fun m hm => hn m (by simp only [List.map_cons, DataW.weightsEach, List.mem_append]; exact Or.inl hm))
      obtain ⟨b, hK', hF'⟩ := hR.2 H enc w spare held m cs ys (by omega) (by simpa using hx) (fun i g hg => by simpa using hr (i + 1) g (by simpa using hg)) (fun m hm => hn m (by simp only [List.map_cons, DataW.weightsEach, List.mem_append]; exact Or.inr hm))
      refine ⟨(a, b), ?_, hF, hF'⟩
      have := hK.append hK'
      rwa [← List.drop_drop, List.take_append_drop] at this⟩
theorem opens_struct {α : Type} {P : Program} {T : TypeId} {fs : Array Field} {R : α → List G} {n : Nat} {F : α → Prop} (hu : P.underlying T = some (.struct fs)) (hc : P.cellsOf T = n) (hf : OpensFs P fs.toList 0 R n F) : Opens P T R n F :=
  ⟨hc, hf.1, fun H enc w spare held fuel cs d ps h hn => by
    obtain ⟨xs, m, _, hx, hl, hxl, hr⟩ := DataW.trod_struct hu h
    obtain ⟨rfl, rfl⟩ := Prod.mk.inj hx
    have := hf.2 H enc w spare held m cs xs (by omega) (by simpa using hxl) (fun i f hi => hr i f (by simpa using hi)) (fun m hm => hn m (by simp only [DataW.weights, hu]; exact hm))
    simpa using this⟩
/-- The same, in a type of one's own. -/
theorem opens_iso {α β : Type} {P : Program} {T : TypeId} {R : α → List G} {n : Nat} {F : α → Prop} (f : β → α) (g : α → β) (hfg : ∀ a, f (g a) = a) (hO : Opens P T R n F) {R' : β → List G} (hR : ∀ b, R' b = R (f b)) : Opens P T R' n (fun b => F (f b)) :=
  ⟨hO.1, fun x => by rw [hR]; exact hO.2.1 (f x), fun H enc w spare held fuel cs d ps h hn => by
    obtain ⟨x, hK, hF⟩ := hO.2.2 H enc w spare held fuel cs d ps h hn
    exact ⟨g x, by rw [hR, hfg]; exact hK, by show F (f (g x)); rw [hfg]; exact hF⟩⟩

/-- A value's cells as a value: a struct's, or another one's. -/
theorem param_struct {α H : Type} {P : Program} {T : TypeId} {fs : Array Field} {R : α → List G} {n : Nat} {F : α → Prop} {enc : TypeId × Value → H} {w : World} {r : Reach} {b : Nat} {spare : Nat → Bool} {held : Bool} {v : Value} {d : DataW H} {p : List MemPlace}
    (hu : P.underlying T = some (.struct fs)) (hO : Opens P T R n F) (hv : Value.okWide P w r b T v) (h : DataW.Trod enc P w 0 spare held T v d p) (hn : ∀ n ∈ d.weights P T, n ≤ reachBytes) :
    ∃ x, Rep C0 w (.agg (R x)) v ∧ F x := by
  obtain ⟨cs, rfl, _⟩ := okWide_struct hu hv
  obtain ⟨fuel, hf⟩ := h
  obtain ⟨x, hK, hF⟩ := hO.2.2 H enc w spare held fuel _ d p hf hn
  refine ⟨x, ?_, hF⟩
  have e : (Value.agg cs).cells.toList = cs.toList := rfl
  rw [e] at hK
  exact .agg _ cs.toList hK.len (fun g hg => closed0_cell ((hO.2.1 x).2 g hg)) hK.one hK.rep
theorem param_one {α H : Type} {P : Program} {T : TypeId} {R : α → List G} {g : α → G} {F : α → Prop} {enc : TypeId × Value → H} {w : World} {spare : Nat → Bool} {held : Bool} {v : Value} {d : DataW H} {p : List MemPlace}
    (hO : Opens P T R 1 F) (hR : ∀ x, R x = [g x]) (hc : v.cells = #[v]) (h : DataW.Trod enc P w 0 spare held T v d p) (hn : ∀ n ∈ d.weights P T, n ≤ reachBytes) :
    ∃ x, Rep C0 w (g x) v ∧ F x := by
  obtain ⟨fuel, hf⟩ := h
  rw [hc] at hf
  obtain ⟨x, hK, hF⟩ := hO.2.2 H enc w spare held fuel _ d p hf hn
  exact ⟨x, hK.rep 0 _ _ (by rw [hR]; rfl) rfl, hF⟩
theorem param_slice {α H : Type} {P : Program} {T e : TypeId} {R : α → List G} {g : α → G} {F : α → Prop} {enc : TypeId × Value → H} {w : World} {r : Reach} {b : Nat} {spare : Nat → Bool} {held : Bool} {v : Value} {d : DataW H} {p : List MemPlace}
    (hu : P.underlying T = some (.slice e)) (hO : Opens P T R 1 F) (hR : ∀ x, R x = [g x]) (hv : Value.okWide P w r b T v) (h : DataW.Trod enc P w 0 spare held T v d p) (hn : ∀ n ∈ d.weights P T, n ≤ reachBytes) :
    ∃ x, Rep C0 w (g x) v ∧ F x := by
  obtain ⟨a, len, cap, rfl⟩ := okWide_slice hu hv
  exact param_one hO hR rfl h hn
theorem param_int {α H : Type} {P : Program} {T : TypeId} {ik : IntKind} {R : α → List G} {g : α → G} {F : α → Prop} {enc : TypeId × Value → H} {w : World} {r : Reach} {b : Nat} {spare : Nat → Bool} {held : Bool} {v : Value} {d : DataW H} {p : List MemPlace}
    (hu : P.underlying T = some (.int ik)) (hO : Opens P T R 1 F) (hR : ∀ x, R x = [g x]) (hv : Value.okWide P w r b T v) (h : DataW.Trod enc P w 0 spare held T v d p) (hn : ∀ n ∈ d.weights P T, n ≤ reachBytes) :
    ∃ x, Rep C0 w (g x) v ∧ F x := by
  obtain ⟨m, rfl⟩ := okWide_int hu hv
  exact param_one hO hR rfl h hn
theorem param_bool {α H : Type} {P : Program} {T : TypeId} {R : α → List G} {g : α → G} {F : α → Prop} {enc : TypeId × Value → H} {w : World} {r : Reach} {b : Nat} {spare : Nat → Bool} {held : Bool} {v : Value} {d : DataW H} {p : List MemPlace}
    (hu : P.underlying T = some .bool) (hO : Opens P T R 1 F) (hR : ∀ x, R x = [g x]) (hv : Value.okWide P w r b T v) (h : DataW.Trod enc P w 0 spare held T v d p) (hn : ∀ n ∈ d.weights P T, n ≤ reachBytes) :
    ∃ x, Rep C0 w (g x) v ∧ F x := by
  obtain ⟨m, rfl⟩ := okWide_bool hu hv
  exact param_one hO hR rfl h hn
theorem param_string {α H : Type} {P : Program} {T : TypeId} {R : α → List G} {g : α → G} {F : α → Prop} {enc : TypeId × Value → H} {w : World} {r : Reach} {b : Nat} {spare : Nat → Bool} {held : Bool} {v : Value} {d : DataW H} {p : List MemPlace}
    (hu : P.underlying T = some .string) (hO : Opens P T R 1 F) (hR : ∀ x, R x = [g x]) (hv : Value.okWide P w r b T v) (h : DataW.Trod enc P w 0 spare held T v d p) (hn : ∀ n ∈ d.weights P T, n ≤ reachBytes) :
    ∃ x, Rep C0 w (g x) v ∧ F x := by
  obtain ⟨m, rfl⟩ := okWide_string hu hv
  exact param_one hO hR rfl h hn
/-- A parameter's weights, out of all. -/
theorem param_weights {H : Type} {P : Program} {ts : List TypeId} {ds : List (DataW H)} (h : (DataW.weightsEach P ts ds).all (· ≤ reachBytes) = true) {j : Nat} {t : TypeId} {d : DataW H} (ht : ts[j]? = some t) (hd : ds[j]? = some d) : ∀ n ∈ d.weights P t, n ≤ reachBytes :=
  fun n hn => by simpa using List.all_eq_true.1 h n (DataW.weights_mem_each ht hd n hn)

/-- A call of a law, by what its arguments read as. -/
theorem Fv.calls {P : Program} {f : FuncId} {gs : List G} {b : Bool} (h : Fv P f gs (.bool b)) {w : World} (hfx : Fixed w C0.ex) {vs : List Value} (hl : vs.length = gs.length) (hr : ∀ (i : Nat) g v, gs[i]? = some g → vs[i]? = some v → Rep C0 w g v) :
    Calls P f ⟨vs⟩ w fun e w' => e = .returned (.bool b) ∧ Below w.heap.size w w' := by
  refine (h.2 C0 w (fun _ => False) vs hl hr (mem0 w _ (fun B h => h.elim)) (fun B h => h.elim) (fun b B h => by cases h) (fun k B s sz n h => by cases h) hfx).mono fun e w' ⟨v, C', g, bs, rs, he, hR, hv, hM, hE⟩ => ?_
  obtain ⟨rfl, _, _⟩ := hR
  cases hv
  exact ⟨he, ⟨hE.fr.os, hE.fr.tape, hE.fr.output, hE.fr.size, fun B hB => hE.fr.block B hB (fun h => h)⟩⟩
end Go.Proofs.Ytijohhdgecadnaa.Av
