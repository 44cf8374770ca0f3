/- One text out of several: Cn149, Cn145, Cn150, Av15. No condition but theirs. -/
import Derived.Deep.Slices
import Derived.SizedLaws
import Derived.ChangeOld
import Derived.WideShapes
import Derived.ChangeShapes
import Derived.Test.YtijohhdgecadnaaZHeaderBack4
import Derived.Test.YtijohhdgecadnaaZHeaderBack5
namespace Go.Proofs.Ytijohhdgecadnaa.Cn
open Go Go.Proofs Go.Proofs.Ytijohhdgecadnaa.Av Go.Proofs.Ytijohhdgecadnaa.Sp Go.RowKit
set_option linter.unusedVariables false
set_option linter.unusedSimpArgs false
set_option linter.unusedSectionVars false
set_option maxRecDepth 100000
attribute [local irreducible] Fv Fp

/-- The parts of the loop's state. -/
def paSl : List G := mkS 49 0 [(2, .ptr 2 0), (3, .ptr 3 0), (4, .ptr 4 0), (5, .ptr 5 0), (6, .ptr 6 0), (7, .ptr 7 0), (15, .fn 74 [.ptr 15 0])]
def paBx (q : Trl) (l e : Int) (t : Trl) (h0 h1 h2 : Bool) (n : Int) (r : ByteArray) : List (Option (List G)) :=
  mkB 57 0 [(2, q.g), (3, [.int .i64 l]), (4, [.int .i64 e]), (5, t.g), (6, [.bool h0, .bool h1, .bool h2]), (7, [.int .i64 n]), (15, [.str r])]
theorem mkB_mem (l : List (Nat × List G)) : ∀ (n i : Nat) cs, some cs ∈ mkB n i l → ∃ p ∈ l, p.2 = cs
  | 0, i, cs, h => by simp [mkB] at h
  | n + 1, i, cs, h => by
    rw [mkB] at h
    rcases List.mem_cons.1 h with h | h
    · cases hf : l.find? (fun p => Nat.beq p.1 i) with
      | none => rw [hf] at h; cases h
      | some p => rw [hf] at h; cases h; exact ⟨p, List.mem_of_find?_eq_some hf, rfl⟩
    · exact mkB_mem l n (i + 1) cs h
theorem paBx_closed {q : Trl} {l e : Int} {t : Trl} {h0 h1 h2 : Bool} {n : Int} {r : ByteArray} : ∀ cs, some cs ∈ paBx q l e t h0 h1 h2 n r → ∀ g ∈ cs, g.closed0 = true := fun cs hcs g hg => by
  obtain ⟨p, hp, rfl⟩ := mkB_mem _ _ _ _ hcs
  simp only [List.mem_cons, List.not_mem_nil, or_false] at hp
  rcases hp with rfl | rfl | rfl | rfl | rfl | rfl | rfl <;> simp only [Trl.g, List.mem_cons, List.not_mem_nil, or_false] at hg <;> rcases hg with rfl | rfl | rfl <;> rfl
def paI (s : ByteArray) (pre : List ByteArray) (bx : List (Option (List G))) : Prop := ∃ t h0 h1 h2 n r, bx = paBx tr0 0 0 t h0 h1 h2 n r ∧ n = (pre.length : Nat) ∧ ∀ suf, linesB s = pre ++ suf → parseT s = parseP suf n t h0 h1 h2
def paX (s : ByteArray) (c : Code) (bx : List (Option (List G))) : Prop := c = .ret ∧ ∃ t h0 h1 h2 n r, bx = paBx (parseT s).1 (parseT s).2.1 (parseT s).2.2 t h0 h1 h2 n r
set_option maxHeartbeats 8000000 in
theorem hd_Parse (s : ByteArray) (h : s.size ≤ 1000000) : Fv Try.prog 47 [.str s] (resG (parseT s)) := by
  refine Fv.of_range (p := 16) Try.func47 rfl (by kernel_rfl) rfl (Nat.le_of_ble_eq_true rfl) str_iter (enters_of Try.func74 (by kernel_rfl) rfl) [2, 3, 4, 5, 6, 7, 15] [] paSl (paBx tr0 0 0 tr1 false false false 0 s) 57 15 s (by show s.size < _; omega)
    rfl rfl rfl (paI s) (paX s) ⟨tr1, false, false, false, 0, s, rfl, rfl, fun suf hs => by rw [← show linesB s = suf from hs]; rfl⟩ ?_ ?_ ?_ (fun pre x suf bx hx hI => ?_) (fun bx hI => ?_) (fun c bx hX => ?_)
  · rintro pre bx r ⟨t, h0, h1, h2, n, r0, rfl, h3, h4⟩
    exact ⟨t, h0, h1, h2, n, r, rfl, h3, h4⟩
  · rintro pre bx ⟨t, h0, h1, h2, n, r0, rfl, h3, h4⟩
    exact ⟨r0, rfl⟩
  · skip
    repeat' (conv => whnf
             first
             | (refine And.intro (Or.inl (by kernel_rfl)) ?_)
             | (refine And.intro (by kernel_rfl) ?_)
             | (refine And.intro ⟨by kernel_rfl, by kernel_rfl⟩ ?_)
             | (refine Or.inr ⟨_, str_Lines s, ?_⟩)
             | (refine cond_f ?_ ?_)
             | (refine ⟨_, ⟨by decide, rfl⟩, ?_⟩)
             | (refine cond_i (fun h => ?_) (fun h => ?_)))
    all_goals (conv => whnf)
    all_goals rfl
  · obtain ⟨t, h0, h1, h2, n, r, rfl, hn, hp⟩ := hI
    have hp := hp _ hx
    obtain ⟨hl1, hl2⟩ := linesB_len s
    have hxs := hl2 x (by rw [hx]; simp)
    have hlen : pre.length < 1000000 := by have := congrArg List.length hx; rw [List.length_append, List.length_cons] at this; omega
    have w1 : IntKind.i64.wrap (n + 1) = n + 1 := wrap_i64 (by omega)
    have wn : IntKind.i64.wrap (n + 1) = ((pre ++ [x]).length : Nat) := by rw [w1, hn]; simp
    have n1 : Fv Try.prog 64 [.str x, .str ⟨#[10]⟩] (.str (strL (trimL x))) := str_TrimSuffix x ⟨#[10]⟩ (by omega)
    have n2 : Fv Try.prog 63 [.str (strL (trimL x)), .str ⟨#[58, 32]⟩] (.tup [.str (strL (cutL x).1), .str (strL (cutL x).2.1), .bool (cutL x).2.2]) := str_Cut (strL (trimL x)) ⟨#[58, 32]⟩ (by rw [strL_size]; have := trimL_len x; omega)
    obtain ⟨hc1, hc2⟩ := cutL_len x
    have hgo : ∀ (suf' : List ByteArray), linesB s = (pre ++ [x]) ++ suf' → suf' = suf := fun suf' e => by
      rw [List.append_assoc] at e
      have := List.append_cancel_left (hx.symm.trans e)
      simpa using this.symm
    obtain ⟨t0, hst⟩ : ∃ t0, t0 = parseT s := ⟨_, rfl⟩
    unfold paI paX
    rw [← hst] at hp ⊢
    clear hst hl1 hl2
    rw [parseP] at hp
    generalize cutL x = q at *
    obtain ⟨name, rest, ok⟩ := q
    simp only at hp n2 hc1 hc2
    have n3 : Fv Try.prog 65 [.str (strL name)] (.int .i64 (kindN name : Nat)) := hd_kind (strL name) (by rw [strL_size]; omega)
    cases ok with
    | false =>
      have b1 : (!false) = true := rfl
      have e : t0 = (tr0, IntKind.i64.wrap (n + 1), 5) := by rw [hp, w1]; rfl
      rw [e]
      repeat' (conv => whnf
               first
               | (refine And.intro (Or.inl (by kernel_rfl)) ?_)
               | (refine And.intro (by kernel_rfl) ?_)
               | (refine And.intro ⟨by kernel_rfl, by kernel_rfl⟩ ?_)
               | (refine Or.inl ⟨_, n1, ?_⟩)
               | (refine ⟨_, n1, ?_⟩)
               | (refine Or.inl ⟨_, n2, ?_⟩)
               | (refine ⟨_, n2, ?_⟩)
               | (refine cond_f ?_ ?_)
               | (refine ⟨_, ⟨by decide, rfl⟩, ?_⟩)
               | (refine cond_i (fun h => ?_) (fun h => ?_)))
      all_goals (conv => whnf)
      exact ⟨⟨rfl, t, h0, h1, h2, (IntKind.i64.wrap (n + 1)), r, rfl⟩, paBx_closed (q := tr0) (l := (IntKind.i64.wrap (n + 1))) (e := 5) (t := t) (h0 := h0) (h1 := h1) (h2 := h2) (n := (IntKind.i64.wrap (n + 1))) (r := r)⟩
    | true =>
      rw [if_neg (by simp)] at hp
      have hk3 : kindN name = 0 ∨ kindN name = 1 ∨ kindN name = 2 ∨ kindN name = 3 := by unfold kindN; (repeat' split) <;> simp
      rcases hk3 with hk | hk | hk | hk
      · rw [hk] at n3 hp
        have n3 : Fv Try.prog 65 [.str (strL name)] (.int .i64 0) := n3
        have f3 : 0 ≤ (0 : Int) ∧ (0 : Int) < ((3 : Nat) : Int) := by decide
        have n4 : Fp Try.prog 66 [.ptr 0 0, .int .i64 0, .str (strL rest)] [t.g] [] (.tup [], [some [.int .i64 (codeI rest), .str t.msg, .int .i64 t.push]], []) := hd_value0 (strL rest) t.code t.push t.msg
        cases h0 with
        | true =>
          have e : t0 = (tr0, IntKind.i64.wrap (n + 1), 8) := by rw [hp, w1]; rfl
          rw [e]
          repeat' (conv => whnf
                   first
                   | (refine And.intro (Or.inl (by kernel_rfl)) ?_)
                   | (refine And.intro (by kernel_rfl) ?_)
                   | (refine And.intro ⟨by kernel_rfl, by kernel_rfl⟩ ?_)
                   | (refine Or.inl ⟨_, n1, ?_⟩)
                   | (refine ⟨_, n1, ?_⟩)
                   | (refine Or.inl ⟨_, n2, ?_⟩)
                   | (refine ⟨_, n2, ?_⟩)
                   | (refine Or.inl ⟨_, n3, ?_⟩)
                   | (refine ⟨_, n3, ?_⟩)
                   | (refine Or.inr ⟨_, n4, ?_⟩)
                   | (refine ⟨f3, ?_⟩)
                   | (refine cond_f ?_ ?_)
                   | (refine ⟨_, ⟨by decide, rfl⟩, ?_⟩)
                   | (refine cond_i (fun h => ?_) (fun h => ?_)))
          all_goals (conv => whnf)
          exact ⟨⟨rfl, t, true, h1, h2, (IntKind.i64.wrap (n + 1)), r, rfl⟩, paBx_closed (q := tr0) (l := (IntKind.i64.wrap (n + 1))) (e := 8) (t := t) (h0 := true) (h1 := h1) (h2 := h2) (n := (IntKind.i64.wrap (n + 1))) (r := r)⟩
        | false =>
          have e : t0 = parseP suf (IntKind.i64.wrap (n + 1)) { t with code := codeI rest } true h1 h2 := by rw [hp, w1]; rfl
          repeat' (conv => whnf
                   first
                   | (refine And.intro (Or.inl (by kernel_rfl)) ?_)
                   | (refine And.intro (by kernel_rfl) ?_)
                   | (refine And.intro ⟨by kernel_rfl, by kernel_rfl⟩ ?_)
                   | (refine Or.inl ⟨_, n1, ?_⟩)
                   | (refine ⟨_, n1, ?_⟩)
                   | (refine Or.inl ⟨_, n2, ?_⟩)
                   | (refine ⟨_, n2, ?_⟩)
                   | (refine Or.inl ⟨_, n3, ?_⟩)
                   | (refine ⟨_, n3, ?_⟩)
                   | (refine Or.inr ⟨_, n4, ?_⟩)
                   | (refine ⟨f3, ?_⟩)
                   | (refine cond_f ?_ ?_)
                   | (refine ⟨_, ⟨by decide, rfl⟩, ?_⟩)
                   | (refine cond_i (fun h => ?_) (fun h => ?_)))
          all_goals (conv => whnf)
          exact ⟨⟨⟨{ t with code := codeI rest }, true, h1, h2, (IntKind.i64.wrap (n + 1)), r, rfl, wn, fun suf' hs => by rw [hgo suf' hs]; exact e⟩, rfl⟩, paBx_closed (q := tr0) (l := 0) (e := 0) (t := { t with code := codeI rest }) (h0 := true) (h1 := h1) (h2 := h2) (n := (IntKind.i64.wrap (n + 1))) (r := r)⟩
      · rw [hk] at n3 hp
        have n3 : Fv Try.prog 65 [.str (strL name)] (.int .i64 1) := n3
        have f3 : 0 ≤ (1 : Int) ∧ (1 : Int) < ((3 : Nat) : Int) := by decide
        have n4 : Fp Try.prog 66 [.ptr 0 0, .int .i64 1, .str (strL rest)] [t.g] [] (.tup [], [some [.int .i64 t.code, .str (strL (unqL rest)), .int .i64 t.push]], []) := hd_value1 (strL rest) t.code t.push t.msg (by rw [strL_size]; omega)
        cases h1 with
        | true =>
          have e : t0 = (tr0, IntKind.i64.wrap (n + 1), 8) := by rw [hp, w1]; rfl
          rw [e]
          repeat' (conv => whnf
                   first
                   | (refine And.intro (Or.inl (by kernel_rfl)) ?_)
                   | (refine And.intro (by kernel_rfl) ?_)
                   | (refine And.intro ⟨by kernel_rfl, by kernel_rfl⟩ ?_)
                   | (refine Or.inl ⟨_, n1, ?_⟩)
                   | (refine ⟨_, n1, ?_⟩)
                   | (refine Or.inl ⟨_, n2, ?_⟩)
                   | (refine ⟨_, n2, ?_⟩)
                   | (refine Or.inl ⟨_, n3, ?_⟩)
                   | (refine ⟨_, n3, ?_⟩)
                   | (refine Or.inr ⟨_, n4, ?_⟩)
                   | (refine ⟨f3, ?_⟩)
                   | (refine cond_f ?_ ?_)
                   | (refine ⟨_, ⟨by decide, rfl⟩, ?_⟩)
                   | (refine cond_i (fun h => ?_) (fun h => ?_)))
          all_goals (conv => whnf)
          exact ⟨⟨rfl, t, h0, true, h2, (IntKind.i64.wrap (n + 1)), r, rfl⟩, paBx_closed (q := tr0) (l := (IntKind.i64.wrap (n + 1))) (e := 8) (t := t) (h0 := h0) (h1 := true) (h2 := h2) (n := (IntKind.i64.wrap (n + 1))) (r := r)⟩
        | false =>
          have e : t0 = parseP suf (IntKind.i64.wrap (n + 1)) { t with msg := strL (unqL rest) } h0 true h2 := by rw [hp, w1]; rfl
          repeat' (conv => whnf
                   first
                   | (refine And.intro (Or.inl (by kernel_rfl)) ?_)
                   | (refine And.intro (by kernel_rfl) ?_)
                   | (refine And.intro ⟨by kernel_rfl, by kernel_rfl⟩ ?_)
                   | (refine Or.inl ⟨_, n1, ?_⟩)
                   | (refine ⟨_, n1, ?_⟩)
                   | (refine Or.inl ⟨_, n2, ?_⟩)
                   | (refine ⟨_, n2, ?_⟩)
                   | (refine Or.inl ⟨_, n3, ?_⟩)
                   | (refine ⟨_, n3, ?_⟩)
                   | (refine Or.inr ⟨_, n4, ?_⟩)
                   | (refine ⟨f3, ?_⟩)
                   | (refine cond_f ?_ ?_)
                   | (refine ⟨_, ⟨by decide, rfl⟩, ?_⟩)
                   | (refine cond_i (fun h => ?_) (fun h => ?_)))
          all_goals (conv => whnf)
          exact ⟨⟨⟨{ t with msg := strL (unqL rest) }, h0, true, h2, (IntKind.i64.wrap (n + 1)), r, rfl, wn, fun suf' hs => by rw [hgo suf' hs]; exact e⟩, rfl⟩, paBx_closed (q := tr0) (l := 0) (e := 0) (t := { t with msg := strL (unqL rest) }) (h0 := h0) (h1 := true) (h2 := h2) (n := (IntKind.i64.wrap (n + 1))) (r := r)⟩
      · rw [hk] at n3 hp
        have n3 : Fv Try.prog 65 [.str (strL name)] (.int .i64 2) := n3
        have f3 : 0 ≤ (2 : Int) ∧ (2 : Int) < ((3 : Nat) : Int) := by decide
        have n4 : Fp Try.prog 66 [.ptr 0 0, .int .i64 2, .str (strL rest)] [t.g] [] (.tup [], [some [.int .i64 t.code, .str t.msg, .int .i64 (numI rest 7)]], []) := hd_value2 (strL rest) t.code t.push t.msg
        cases h2 with
        | true =>
          have e : t0 = (tr0, IntKind.i64.wrap (n + 1), 8) := by rw [hp, w1]; rfl
          rw [e]
          repeat' (conv => whnf
                   first
                   | (refine And.intro (Or.inl (by kernel_rfl)) ?_)
                   | (refine And.intro (by kernel_rfl) ?_)
                   | (refine And.intro ⟨by kernel_rfl, by kernel_rfl⟩ ?_)
                   | (refine Or.inl ⟨_, n1, ?_⟩)
                   | (refine ⟨_, n1, ?_⟩)
                   | (refine Or.inl ⟨_, n2, ?_⟩)
                   | (refine ⟨_, n2, ?_⟩)
                   | (refine Or.inl ⟨_, n3, ?_⟩)
                   | (refine ⟨_, n3, ?_⟩)
                   | (refine Or.inr ⟨_, n4, ?_⟩)
                   | (refine ⟨f3, ?_⟩)
                   | (refine cond_f ?_ ?_)
                   | (refine ⟨_, ⟨by decide, rfl⟩, ?_⟩)
                   | (refine cond_i (fun h => ?_) (fun h => ?_)))
          all_goals (conv => whnf)
          exact ⟨⟨rfl, t, h0, h1, true, (IntKind.i64.wrap (n + 1)), r, rfl⟩, paBx_closed (q := tr0) (l := (IntKind.i64.wrap (n + 1))) (e := 8) (t := t) (h0 := h0) (h1 := h1) (h2 := true) (n := (IntKind.i64.wrap (n + 1))) (r := r)⟩
        | false =>
          have e : t0 = parseP suf (IntKind.i64.wrap (n + 1)) { t with push := numI rest 7 } h0 h1 true := by rw [hp, w1]; rfl
          repeat' (conv => whnf
                   first
                   | (refine And.intro (Or.inl (by kernel_rfl)) ?_)
                   | (refine And.intro (by kernel_rfl) ?_)
                   | (refine And.intro ⟨by kernel_rfl, by kernel_rfl⟩ ?_)
                   | (refine Or.inl ⟨_, n1, ?_⟩)
                   | (refine ⟨_, n1, ?_⟩)
                   | (refine Or.inl ⟨_, n2, ?_⟩)
                   | (refine ⟨_, n2, ?_⟩)
                   | (refine Or.inl ⟨_, n3, ?_⟩)
                   | (refine ⟨_, n3, ?_⟩)
                   | (refine Or.inr ⟨_, n4, ?_⟩)
                   | (refine ⟨f3, ?_⟩)
                   | (refine cond_f ?_ ?_)
                   | (refine ⟨_, ⟨by decide, rfl⟩, ?_⟩)
                   | (refine cond_i (fun h => ?_) (fun h => ?_)))
          all_goals (conv => whnf)
          exact ⟨⟨⟨{ t with push := numI rest 7 }, h0, h1, true, (IntKind.i64.wrap (n + 1)), r, rfl, wn, fun suf' hs => by rw [hgo suf' hs]; exact e⟩, rfl⟩, paBx_closed (q := tr0) (l := 0) (e := 0) (t := { t with push := numI rest 7 }) (h0 := h0) (h1 := h1) (h2 := true) (n := (IntKind.i64.wrap (n + 1))) (r := r)⟩
      · rw [hk] at n3 hp
        have n3 : Fv Try.prog 65 [.str (strL name)] (.int .i64 3) := n3
        have e : t0 = parseP suf (IntKind.i64.wrap (n + 1)) t h0 h1 h2 := by rw [hp, w1]; rfl
        repeat' (conv => whnf
                 first
                 | (refine And.intro (Or.inl (by kernel_rfl)) ?_)
                 | (refine And.intro (by kernel_rfl) ?_)
                 | (refine And.intro ⟨by kernel_rfl, by kernel_rfl⟩ ?_)
                 | (refine Or.inl ⟨_, n1, ?_⟩)
                 | (refine ⟨_, n1, ?_⟩)
                 | (refine Or.inl ⟨_, n2, ?_⟩)
                 | (refine ⟨_, n2, ?_⟩)
                 | (refine Or.inl ⟨_, n3, ?_⟩)
                 | (refine ⟨_, n3, ?_⟩)
                 | (refine cond_f ?_ ?_)
                 | (refine ⟨_, ⟨by decide, rfl⟩, ?_⟩)
                 | (refine cond_i (fun h => ?_) (fun h => ?_)))
        all_goals (conv => whnf)
        exact ⟨⟨⟨t, h0, h1, h2, (IntKind.i64.wrap (n + 1)), r, rfl, wn, fun suf' hs => by rw [hgo suf' hs]; exact e⟩, rfl⟩, paBx_closed (q := tr0) (l := 0) (e := 0) (t := t) (h0 := h0) (h1 := h1) (h2 := h2) (n := (IntKind.i64.wrap (n + 1))) (r := r)⟩
  · obtain ⟨t, h0, h1, h2, n, r, rfl, hn, hp⟩ := hI
    have hp := hp [] (by simp)
    rw [parseP] at hp
    rw [hp]
    have f3 : 0 ≤ (0 : Int) ∧ (0 : Int) < ((3 : Nat) : Int) := by decide
    cases h0 with
    | true =>
      repeat' (conv => whnf
               first
               | (refine And.intro (Or.inl (by kernel_rfl)) ?_)
               | (refine And.intro (by kernel_rfl) ?_)
               | (refine And.intro ⟨by kernel_rfl, by kernel_rfl⟩ ?_)
               | (refine ⟨f3, ?_⟩)
               | (refine cond_f ?_ ?_)
               | (refine ⟨_, ⟨by decide, rfl⟩, ?_⟩)
               | (refine cond_i (fun h => ?_) (fun h => ?_)))
      all_goals (conv => whnf)
      all_goals rfl
    | false =>
      repeat' (conv => whnf
               first
               | (refine And.intro (Or.inl (by kernel_rfl)) ?_)
               | (refine And.intro (by kernel_rfl) ?_)
               | (refine And.intro ⟨by kernel_rfl, by kernel_rfl⟩ ?_)
               | (refine ⟨f3, ?_⟩)
               | (refine cond_f ?_ ?_)
               | (refine ⟨_, ⟨by decide, rfl⟩, ?_⟩)
               | (refine cond_i (fun h => ?_) (fun h => ?_)))
      all_goals (conv => whnf)
      all_goals rfl
  · obtain ⟨rfl, t, h0, h1, h2, n, r, rfl⟩ := hX
    repeat' (conv => whnf
             first
             | (refine And.intro (Or.inl (by kernel_rfl)) ?_)
             | (refine And.intro (by kernel_rfl) ?_)
             | (refine And.intro ⟨by kernel_rfl, by kernel_rfl⟩ ?_)
             | (refine cond_f ?_ ?_)
             | (refine ⟨_, ⟨by decide, rfl⟩, ?_⟩)
             | (refine cond_i (fun h => ?_) (fun h => ?_)))
    all_goals (conv => whnf)
    all_goals rfl
end Go.Proofs.Ytijohhdgecadnaa.Cn
namespace Go.Proofs.Ytijohhdgecadnaa.Cn
open Go Go.Proofs Go.Proofs.Ytijohhdgecadnaa.Av Go.Proofs.Ytijohhdgecadnaa.Sp Go.RowKit
set_option linter.unusedVariables false
set_option linter.unusedSimpArgs false
set_option linter.unusedSectionVars false
set_option maxRecDepth 100000
attribute [local irreducible] Fv Fp

theorem u8_one {l : List UInt8} (h : l.length ≤ 100000000) : 0 + l.length ≤ (bldR l).length ∧ (0 < l.length + 1 ∨ bldR l = []) ∧ fitsB Try.prog 5 (l.length + 1) ∧ ∀ r ∈ bldR l, r.length = Try.prog.cellsOf 5 := by
  refine ⟨by simp [bldR], .inl (by omega), by unfold fitsB; rw [u8b]; omega, fun r hr => by obtain ⟨x, _, rfl⟩ := List.mem_map.1 hr; rw [u8c]; rfl⟩
theorem u8_snoc (l : List UInt8) (c : UInt8) : ((bldR l).drop 0).take l.length ++ [[G.int .u8 (c.toNat : Int)]] = bldR (l ++ [c]) := by
  unfold bldR; rw [List.drop_zero, List.map_append, List.take_of_length_le (by simp)]; rfl
theorem hexI_iff (c : Int) : hexI c ≥ 0 ↔ nibN c.toNat < 16 := by
  unfold hexI
  split
  · constructor
    · intro _; assumption
    · intro _; omega
  · constructor
    · intro h; omega
    · intro h; omega
theorem hexI_val {c : Int} (h : nibN c.toNat < 16) : hexI c = (nibN c.toNat : Nat) := by unfold hexI; rw [if_pos h]
set_option maxHeartbeats 8000000 in
theorem r37_Unquote (s : ByteArray) (h : s.size ≤ 1000000) : Fv Try.prog 46 [.str s] (.str (strL (unqL s.data.toList))) := by
  have hall : (unqL s.data.toList).length ≤ s.size := by rw [← size_list]; exact unqL_len _ _
  refine Fv.of_awp Try.func46 rfl (by kernel_rfl) rfl (Nat.le_of_ble_eq_true rfl) ?_
  repeat' (conv => whnf
           first
           | (refine And.intro (Or.inl (by kernel_rfl)) ?_)
           | (refine And.intro (by kernel_rfl) ?_)
           | (refine And.intro ⟨by kernel_rfl, by kernel_rfl⟩ ?_)
           | (refine cond_f ?_ ?_)
           | (refine ⟨_, ⟨by decide, rfl⟩, ?_⟩)
           | (refine cond_i (fun h => ?_) (fun h => ?_)))
  all_goals (conv => whnf)
  refine Has.own0 3 68 rfl rfl ?_
  refine Has.each [0, 3, 4, 5] [] s.size (fun k (b : Nat × List UInt8) => k + b.1 ≤ s.size ∧ b.1 ≤ 2 ∧ b.2 ++ unqL (s.data.toList.drop (k + b.1)) = unqL s.data.toList) (fun b i =>
    St.of 67 [(0, .str s), (3, .own 68 0 b.2.length), (4, .int .i64 (b.1 : Nat)), (5, .int .i64 i)] [] [(68, bldR b.2)]) ⟨(0, []), 0, rfl, ⟨by omega, by omega, by simp⟩, rfl⟩ (fun i b hlt hI => ?_) (fun b hI => ?_)
  · obtain ⟨k, out⟩ := b
    obtain ⟨hk1, hk2, hu⟩ := hI
    simp only at *
    have hout : out.length ≤ 1000000 := by have := congrArg List.length hu; rw [List.length_append] at this; omega
    have b0 : decide ((i : Int) < (s.size : Int)) = true := decide_eq_true (by omega)
    have w1 : IntKind.i64.wrap ((i : Int) + 1) = (i : Int) + 1 := wrap_i64 (by omega)
    by_cases hk : k = 0
    · subst hk
      rw [Nat.add_zero] at hu
      have b1 : decide (((0 : Nat) : Int) > 0) = false := by decide
      have f0 : 0 ≤ (i : Int) ∧ (i : Int) < (s.size : Int) := by omega
      have w2 : IntKind.i64.wrap ((i : Int) + 2) = (i : Int) + 2 := wrap_i64 (by omega)
      have w3 : IntKind.i64.wrap ((s.size : Int) - (i : Int)) = (s.size : Int) - (i : Int) := wrap_i64 (by omega)
      have hd1 : (IntKind.i64.wrap ((i : Int) + 1)).toNat = i + 1 := by rw [w1]; omega
      have hd2 : (IntKind.i64.wrap ((i : Int) + 2)).toNat = i + 2 := by rw [w2]; omega
      have n1 := r37_hex (byteAt s (IntKind.i64.wrap ((i : Int) + 1)).toNat) (byteAt_bd _ _)
      have n2 := r37_hex (byteAt s (IntKind.i64.wrap ((i : Int) + 2)).toNat) (byteAt_bd _ _)
      have f1 : decide (IntKind.i64.wrap ((s.size : Int) - (i : Int)) > 2) = true → 0 ≤ IntKind.i64.wrap ((i : Int) + 1) ∧ IntKind.i64.wrap ((i : Int) + 1) < (s.size : Int) := fun e => by
        have := of_decide_eq_true e; rw [w3] at this; rw [w1]; omega
      have f2 : decide (IntKind.i64.wrap ((s.size : Int) - (i : Int)) > 2) = true → 0 ≤ IntKind.i64.wrap ((i : Int) + 2) ∧ IntKind.i64.wrap ((i : Int) + 2) < (s.size : Int) := fun e => by
        have := of_decide_eq_true e; rw [w3] at this; rw [w2]; omega
      have hQ := isQ_at s i
      rw [← hd1, ← hd2] at hQ
      have a0 := u8_one (l := out) (by omega)
      cases hq : isQ (s.data.toList.drop i) with
      | true =>
        have hq' := hq
        rw [hQ] at hq'
        obtain ⟨c1, c2, c3, c4⟩ := of_decide_eq_true hq'
        have t1 : (byteAt s i == 37) = true := by simpa using c1
        have t2 : decide (IntKind.i64.wrap ((s.size : Int) - (i : Int)) > 2) = true := decide_eq_true (by rw [w3]; omega)
        have t3 : decide (hexI (byteAt s (IntKind.i64.wrap ((i : Int) + 1)).toNat) ≥ 0) = true := decide_eq_true ((hexI_iff _).2 c3)
        have t4 : decide (hexI (byteAt s (IntKind.i64.wrap ((i : Int) + 2)).toNat) ≥ 0) = true := decide_eq_true ((hexI_iff _).2 c4)
        have f1 := f1 t2
        have f2 := f2 t2
        have hv : IntKind.u8.wrap (IntKind.i64.wrap (IntKind.i64.wrap (16 * hexI (byteAt s (IntKind.i64.wrap ((i : Int) + 1)).toNat)) + hexI (byteAt s (IntKind.i64.wrap ((i : Int) + 2)).toNat))) = ((qByte (s.data.toList.drop i)).toNat : Int) := by
          rw [← qByte_at s i hq, ← hd1, ← hd2, hexI_val c3, hexI_val c4]
          have := qE_eq ⟨_, c3⟩ ⟨_, c4⟩
          simp only at this
          rw [this, wrap_i64 (n := 16 * _) (by omega), wrap_i64 (by omega), wrap_u8m]
          omega
        have eT : (out ++ [qByte (s.data.toList.drop i)]) ++ unqL (s.data.toList.drop (i + 1 + 2)) = unqL s.data.toList := by
          rw [← hu, unqL_q hq, List.drop_drop, List.append_assoc]; rfl
        refine awp_go ?_
        repeat' (conv => whnf
                 first
                 | (refine And.intro (Or.inl (by kernel_rfl)) ?_)
                 | (refine And.intro (by kernel_rfl) ?_)
                 | (refine And.intro ⟨by kernel_rfl, by kernel_rfl⟩ ?_)
                 | (refine cond_1 b0 ?_)
                 | (refine cond_0 b1 ?_)
                 | (refine ⟨f0, ?_⟩)
                 | (refine cond_1 t1 ?_)
                 | (refine cond_1 t2 ?_)
                 | (refine ⟨f1, ?_⟩)
                 | (refine Or.inl ⟨_, n1, ?_⟩)
                 | (refine ⟨_, n1, ?_⟩)
                 | (refine cond_1 t3 ?_)
                 | (refine ⟨f2, ?_⟩)
                 | (refine Or.inl ⟨_, n2, ?_⟩)
                 | (refine ⟨_, n2, ?_⟩)
                 | (refine cond_1 t4 ?_)
                 | (refine ⟨a0, ?_⟩)
                 | (refine cond_f ?_ ?_)
                 | (refine ⟨_, ⟨by decide, rfl⟩, ?_⟩)
                 | (refine cond_i (fun h => ?_) (fun h => ?_)))
        all_goals (conv => whnf)
        refine ⟨(2, out ++ [qByte (s.data.toList.drop i)]), _, ?_, ⟨by omega, by omega, eT⟩, w1⟩
        rw [← u8_snoc, List.length_append, ← hv]
        rfl
      | false =>
        have tF : (byteAt s i == 37) = true → decide (IntKind.i64.wrap ((s.size : Int) - (i : Int)) > 2) = true → decide (hexI (byteAt s (IntKind.i64.wrap ((i : Int) + 1)).toNat) ≥ 0) = true → decide (hexI (byteAt s (IntKind.i64.wrap ((i : Int) + 2)).toNat) ≥ 0) = true → False := fun d1 d2 d3 d4 => by
          rw [hQ] at hq
          have d2 := of_decide_eq_true d2
          rw [w3] at d2
          exact of_decide_eq_false hq ⟨by simpa using d1, by omega, (hexI_iff _).1 (of_decide_eq_true d3), (hexI_iff _).1 (of_decide_eq_true d4)⟩
        have eF : (out ++ [s.data.toList.getD i 0]) ++ unqL (s.data.toList.drop (i + 1 + 0)) = unqL s.data.toList := by
          have e2 := drop_cons s hlt
          rw [← hu, e2, unqL_c (by rw [← e2]; exact hq), List.append_assoc]; rfl
        refine awp_go ?_
        repeat' (conv => whnf
                 first
                 | (refine And.intro (Or.inl (by kernel_rfl)) ?_)
                 | (refine And.intro (by kernel_rfl) ?_)
                 | (refine And.intro ⟨by kernel_rfl, by kernel_rfl⟩ ?_)
                 | (refine cond_1 b0 ?_)
                 | (refine cond_0 b1 ?_)
                 | (refine ⟨f0, ?_⟩)
                 | (refine ⟨f1 (by assumption), ?_⟩)
                 | (refine Or.inl ⟨_, n1, ?_⟩)
                 | (refine ⟨_, n1, ?_⟩)
                 | (refine ⟨f2 (by assumption), ?_⟩)
                 | (refine Or.inl ⟨_, n2, ?_⟩)
                 | (refine ⟨_, n2, ?_⟩)
                 | (refine ⟨a0, ?_⟩)
                 | (refine cond_f ?_ ?_)
                 | (refine ⟨_, ⟨by decide, rfl⟩, ?_⟩)
                 | (refine cond_i (fun h => ?_) (fun h => ?_)))
        all_goals (conv => whnf)
        all_goals first
          | (exfalso; exact tF (by assumption) (by assumption) (by assumption) (by assumption))
          | (refine ⟨(0, out ++ [s.data.toList.getD i 0]), _, ?_, ⟨by omega, by omega, eF⟩, w1⟩
             rw [← u8_snoc, List.length_append]
             rfl)
    · have b1 : decide ((k : Int) > 0) = true := decide_eq_true (by omega)
      have w4 : IntKind.i64.wrap ((k : Int) - 1) = ((k - 1 : Nat) : Int) := by rw [wrap_i64 (by omega)]; omega
      refine awp_go ?_
      repeat' (conv => whnf
               first
               | (refine And.intro (Or.inl (by kernel_rfl)) ?_)
               | (refine And.intro (by kernel_rfl) ?_)
               | (refine And.intro ⟨by kernel_rfl, by kernel_rfl⟩ ?_)
               | (refine cond_1 b0 ?_)
               | (refine cond_1 b1 ?_)
               | (refine cond_f ?_ ?_)
               | (refine ⟨_, ⟨by decide, rfl⟩, ?_⟩)
               | (refine cond_i (fun h => ?_) (fun h => ?_)))
      all_goals (conv => whnf)
      refine ⟨(k - 1, out), _, ?_, ⟨by omega, by omega, by rw [show i + 1 + (k - 1) = i + k from by omega]; exact hu⟩, w1⟩
      rw [← w4]
      rfl
  · obtain ⟨k, out⟩ := b
    obtain ⟨hk1, hk2, hu⟩ := hI
    simp only at *
    obtain rfl : k = 0 := by omega
    rw [Nat.add_zero, show s.data.toList.drop s.size = [] from List.drop_eq_nil_of_le (by rw [size_list]; omega), unqL_nil, List.append_nil] at hu
    have b0 : decide ((s.size : Int) < (s.size : Int)) = false := decide_eq_false (by omega)
    have g1 : 0 + out.length ≤ (bldR out).length := by simp [bldR]
    have g2 : ((bldR out).drop 0).take out.length = bldR out := by rw [List.drop_zero, List.take_of_length_le (by simp [bldR])]
    have g3 : bldR out = out.map (fun b => [G.int .u8 b.toNat]) := rfl
    rw [← hu]
    refine awp_go ?_
    repeat' (conv => whnf
             first
             | (refine And.intro (Or.inl (by kernel_rfl)) ?_)
             | (refine And.intro (by kernel_rfl) ?_)
             | (refine And.intro ⟨by kernel_rfl, by kernel_rfl⟩ ?_)
             | (refine cond_0 b0 ?_)
             | (refine ⟨g1, ?_⟩)
             | (rw [g2])
             | (refine ⟨_, g3, ?_⟩)
             | (refine cond_f ?_ ?_)
             | (refine ⟨_, ⟨by decide, rfl⟩, ?_⟩)
             | (refine cond_i (fun h => ?_) (fun h => ?_)))
    all_goals (conv => whnf)
    all_goals rfl
end Go.Proofs.Ytijohhdgecadnaa.Cn
namespace Go.Proofs.Ytijohhdgecadnaa.Cn
open Go Go.Proofs Go.Proofs.Ytijohhdgecadnaa.Av Go.Proofs.Ytijohhdgecadnaa.Sp Go.RowKit
set_option linter.unusedVariables false
set_option linter.unusedSimpArgs false
set_option linter.unusedSectionVars false
set_option maxRecDepth 100000
attribute [local irreducible] Fv Fp

def awS : ByteArray := ⟨#[83, 116, 97, 116, 117, 115, 58, 32, 49, 52, 10, 109, 101, 115, 115, 97, 103, 101, 58, 32, 97, 37, 50, 53, 98, 10, 112, 117, 115, 104, 98, 97, 99, 107, 58, 32, 52, 48, 10]⟩
theorem aw_lines : linesL awS.data.toList = [[83, 116, 97, 116, 117, 115, 58, 32, 49, 52, 10], [109, 101, 115, 115, 97, 103, 101, 58, 32, 97, 37, 50, 53, 98, 10], [112, 117, 115, 104, 98, 97, 99, 107, 58, 32, 52, 48, 10]] := by decide +kernel
theorem aw_cut1 : cutL (strL [83, 116, 97, 116, 117, 115, 58, 32, 49, 52, 10]) = ([83, 116, 97, 116, 117, 115], [49, 52], true) := by decide +kernel
theorem aw_cut2 : cutL (strL [109, 101, 115, 115, 97, 103, 101, 58, 32, 97, 37, 50, 53, 98, 10]) = ([109, 101, 115, 115, 97, 103, 101], [97, 37, 50, 53, 98], true) := by decide +kernel
theorem aw_cut3 : cutL (strL [112, 117, 115, 104, 98, 97, 99, 107, 58, 32, 52, 48, 10]) = ([112, 117, 115, 104, 98, 97, 99, 107], [52, 48], true) := by decide +kernel
theorem aw_k1 : kindN [83, 116, 97, 116, 117, 115] = 0 := by decide +kernel
theorem aw_k2 : kindN [109, 101, 115, 115, 97, 103, 101] = 1 := by decide +kernel
theorem aw_k3 : kindN [112, 117, 115, 104, 98, 97, 99, 107] = 2 := by decide +kernel
theorem aw_v1 : codeI [49, 52] = 14 := by decide +kernel
theorem aw_v2 : unqL [97, 37, 50, 53, 98] = [97, 37, 98] := by decide +kernel
theorem aw_v3 : numI [52, 48] 7 = 40 := by decide +kernel
theorem aw_parse : parseT awS = (⟨14, ⟨#[97, 37, 98]⟩, 40⟩, 0, 0) := by
  unfold parseT linesB
  rw [aw_lines]
  simp only [List.map_cons, List.map_nil]
  rw [parseP, aw_cut1]
  simp only [aw_k1, aw_v1, Bool.true_eq_false, if_false, if_true, Bool.false_eq_true]
  rw [parseP, aw_cut2]
  simp only [aw_k2, aw_v2, Bool.true_eq_false, if_false, if_true, Bool.false_eq_true, Nat.one_ne_zero]
  rw [parseP, aw_cut3]
  simp only [aw_k3, aw_v3, Bool.true_eq_false, if_false, if_true, Bool.false_eq_true, show ¬ (2 : Nat) = 0 from by decide, show ¬ (2 : Nat) = 1 from by decide]
  rw [parseP]
  rfl
theorem aw_quote : strL (quoteL [97, 37, 98, 10]) = ⟨#[97, 37, 50, 53, 98, 37, 48, 65]⟩ := by kernel_rfl
theorem aw_walk (q : Trl × Int × Int) (x : ByteArray) (n1 : Fv Try.prog 47 [.str awS] (resG q)) (n2 : Fv Try.prog 43 [.str ⟨#[97, 37, 98, 10]⟩] (.str x))
    (b1 : strEq x ⟨#[97, 37, 50, 53, 98, 37, 48, 65]⟩ = true) (b2 : (q.2.2 == 0) = true) (b3 : (q.2.1 == 0) = true) (b4 : (q.1.code == 14 && (strEq q.1.msg ⟨#[97, 37, 98]⟩ && (q.1.push == 40 && true))) = true) : Fv Try.prog 42 [] (.bool true) := by
  refine Fv.of_awp Try.func42 rfl (by kernel_rfl) rfl (Nat.le_of_ble_eq_true rfl) ?_
  repeat' (conv => whnf
           first
           | (refine And.intro (Or.inl (by kernel_rfl)) ?_)
           | (refine And.intro (by kernel_rfl) ?_)
           | (refine And.intro ⟨by kernel_rfl, by kernel_rfl⟩ ?_)
           | (refine Or.inl ⟨_, n1, ?_⟩)
           | (refine ⟨_, n1, ?_⟩)
           | (refine Or.inl ⟨_, n2, ?_⟩)
           | (refine ⟨_, n2, ?_⟩)
           | (refine cond_1 b1 ?_)
           | (refine cond_1 b2 ?_)
           | (refine cond_1 b3 ?_)
           | (refine cond_f ?_ ?_)
           | (refine ⟨_, ⟨by decide, rfl⟩, ?_⟩)
           | (refine cond_i (fun h => ?_) (fun h => ?_)))
  all_goals (conv => whnf)
  all_goals exact congrArg G.bool b4
theorem law37_awake : Fv Try.prog 42 [] (.bool true) := by
  refine aw_walk _ _ (hd_Parse awS (by decide)) (hd_Quote ⟨#[97, 37, 98, 10]⟩ (by decide)) ?_ ?_ ?_ ?_
  · rw [show (⟨#[97, 37, 98, 10]⟩ : ByteArray).data.toList = [97, 37, 98, 10] from rfl, aw_quote]; exact strEq_self _
  · rw [aw_parse]; rfl
  · rw [aw_parse]; rfl
  · rw [aw_parse]
    have e : strEq ⟨#[97, 37, 98]⟩ ⟨#[97, 37, 98]⟩ = true := strEq_self _
    simp only [e]
    rfl
theorem law37_HeaderQuotes (s : ByteArray) : Fv Try.prog 11 [.str s] (.bool true) := by
  have n0 := law37_awake
  by_cases h : s.size > 1000
  · have b0 : decide ((s.size : Int) > 1000) = true := decide_eq_true (by omega)
    refine Fv.of_awp Try.func11 rfl (by kernel_rfl) rfl (Nat.le_of_ble_eq_true rfl) ?_
    repeat' (conv => whnf
             first
             | (refine And.intro (Or.inl (by kernel_rfl)) ?_)
             | (refine And.intro (by kernel_rfl) ?_)
             | (refine And.intro ⟨by kernel_rfl, by kernel_rfl⟩ ?_)
             | (refine cond_1 b0 ?_)
             | (refine Or.inl ⟨_, n0, ?_⟩)
             | (refine ⟨_, n0, ?_⟩)
             | (refine cond_f ?_ ?_)
             | (refine ⟨_, ⟨by decide, rfl⟩, ?_⟩)
             | (refine cond_i (fun h => ?_) (fun h => ?_)))
    all_goals (conv => whnf)
    all_goals rfl
  · have b0 : decide ((s.size : Int) > 1000) = false := decide_eq_false (by omega)
    have n1 := hd_Quote s (by omega)
    have n2 := r37_Quote s (by omega)
    have n3 := hd_Unquote s (by omega)
    have n4 := r37_Unquote s (by omega)
    have b1 := strEq_self (strL (quoteL s.data.toList))
    have b2 := strEq_self (strL (unqL s.data.toList))
    refine Fv.of_awp Try.func11 rfl (by kernel_rfl) rfl (Nat.le_of_ble_eq_true rfl) ?_
    repeat' (conv => whnf
             first
             | (refine And.intro (Or.inl (by kernel_rfl)) ?_)
             | (refine And.intro (by kernel_rfl) ?_)
             | (refine And.intro ⟨by kernel_rfl, by kernel_rfl⟩ ?_)
             | (refine cond_0 b0 ?_)
             | (refine Or.inl ⟨_, n0, ?_⟩)
             | (refine ⟨_, n0, ?_⟩)
             | (refine Or.inl ⟨_, n1, ?_⟩)
             | (refine ⟨_, n1, ?_⟩)
             | (refine Or.inl ⟨_, n2, ?_⟩)
             | (refine ⟨_, n2, ?_⟩)
             | (refine Or.inl ⟨_, n3, ?_⟩)
             | (refine ⟨_, n3, ?_⟩)
             | (refine Or.inl ⟨_, n4, ?_⟩)
             | (refine ⟨_, n4, ?_⟩)
             | (refine cond_1 b1 ?_)
             | (refine cond_1 b2 ?_)
             | (refine cond_f ?_ ?_)
             | (refine ⟨_, ⟨by decide, rfl⟩, ?_⟩)
             | (refine cond_i (fun h => ?_) (fun h => ?_)))
    all_goals (conv => whnf)
    all_goals rfl
theorem law37_HeaderBack (s : ByteArray) : Fv Try.prog 12 [.str s] (.bool true) := by
  have n0 := law37_awake
  by_cases h : s.size > 1000
  · have b0 : decide ((s.size : Int) > 1000) = true := decide_eq_true (by omega)
    refine Fv.of_awp Try.func12 rfl (by kernel_rfl) rfl (Nat.le_of_ble_eq_true rfl) ?_
    repeat' (conv => whnf
             first
             | (refine And.intro (Or.inl (by kernel_rfl)) ?_)
             | (refine And.intro (by kernel_rfl) ?_)
             | (refine And.intro ⟨by kernel_rfl, by kernel_rfl⟩ ?_)
             | (refine cond_1 b0 ?_)
             | (refine Or.inl ⟨_, n0, ?_⟩)
             | (refine ⟨_, n0, ?_⟩)
             | (refine cond_f ?_ ?_)
             | (refine ⟨_, ⟨by decide, rfl⟩, ?_⟩)
             | (refine cond_i (fun h => ?_) (fun h => ?_)))
    all_goals (conv => whnf)
    all_goals rfl
  · have b0 : decide ((s.size : Int) > 1000) = false := decide_eq_false (by omega)
    have n1 := hd_Quote s (by omega)
    obtain ⟨q1, q2⟩ := quoteL_len s.data.toList
    have q3 := quoteL_range s.data.toList
    rw [size_list] at q1 q2
    have n2 := hd_Unquote (strL (quoteL s.data.toList)) (by rw [strL_size]; omega)
    rw [strL_list, unq_quote, strL_eq] at n2
    obtain ⟨q, hq⟩ : ∃ q, q = strL (quoteL s.data.toList) := ⟨_, rfl⟩
    have hqs : q.size = (quoteL s.data.toList).length := by rw [hq, strL_size]
    have hqr : ∀ k, k < q.size → 32 ≤ byteAt q k ∧ byteAt q k ≤ 126 := fun k hk => by
      have hl : k < (quoteL s.data.toList).length := by omega
      have e : byteAt q k = (((quoteL s.data.toList)[k]).toNat : Int) := by rw [hq, byteAt_strL, List.getD_eq_getElem?_getD, List.getElem?_eq_getElem hl]; rfl
      have := q3 _ (List.getElem_mem hl)
      rw [e]; omega
    rw [← hq] at n1 n2
    clear hq q3
    refine Fv.of_awp Try.func12 rfl (by kernel_rfl) rfl (Nat.le_of_ble_eq_true rfl) ?_
    repeat' (conv => whnf
             first
             | (refine And.intro (Or.inl (by kernel_rfl)) ?_)
             | (refine And.intro (by kernel_rfl) ?_)
             | (refine And.intro ⟨by kernel_rfl, by kernel_rfl⟩ ?_)
             | (refine cond_0 b0 ?_)
             | (refine Or.inl ⟨_, n1, ?_⟩)
             | (refine ⟨_, n1, ?_⟩)
             | (refine cond_f ?_ ?_)
             | (refine ⟨_, ⟨by decide, rfl⟩, ?_⟩)
             | (refine cond_i (fun h => ?_) (fun h => ?_)))
    all_goals (conv => whnf)
    refine Has.each [0, 3, 4] [] q.size (fun k (b : Unit) => True) (fun b i => St.of 49 [(0, .str s), (3, .str q), (4, .int .i64 i)] [] []) ⟨(), 0, rfl, trivial, rfl⟩ (fun k b hk hI => ?_) (fun b hI => ?_)
    · have c0 : decide ((k : Int) < (q.size : Int)) = true := decide_eq_true (by omega)
      have f0 : 0 ≤ (k : Int) ∧ (k : Int) < (q.size : Int) := by omega
      obtain ⟨r1, r2⟩ := hqr k hk
      have t1 : decide (byteAt q k < 32) = false := decide_eq_false (by omega)
      have t2 : decide (byteAt q k > 126) = false := decide_eq_false (by omega)
      refine awp_go ?_
      repeat' (conv => whnf
               first
               | (refine And.intro (Or.inl (by kernel_rfl)) ?_)
               | (refine And.intro (by kernel_rfl) ?_)
               | (refine And.intro ⟨by kernel_rfl, by kernel_rfl⟩ ?_)
               | (refine cond_1 c0 ?_)
               | (refine ⟨f0, ?_⟩)
               | (refine cond_0 t1 ?_)
               | (refine cond_0 t2 ?_)
               | (refine cond_f ?_ ?_)
               | (refine ⟨_, ⟨by decide, rfl⟩, ?_⟩)
               | (refine cond_i (fun h => ?_) (fun h => ?_)))
      all_goals (conv => whnf)
      exact ⟨(), _, rfl, trivial, wrap_i64 (by omega)⟩
    · have c0 : decide ((q.size : Int) < (q.size : Int)) = false := decide_eq_false (by omega)
      have b1 := strEq_self s
      have t3 : decide ((q.size : Int) ≥ (s.size : Int)) = true := decide_eq_true (by omega)
      have t4 : decide ((q.size : Int) ≤ IntKind.i64.wrap (3 * (s.size : Int))) = true := decide_eq_true (by rw [wrap_i64 (by omega)]; omega)
      refine awp_go ?_
      repeat' (conv => whnf
               first
               | (refine And.intro (Or.inl (by kernel_rfl)) ?_)
               | (refine And.intro (by kernel_rfl) ?_)
               | (refine And.intro ⟨by kernel_rfl, by kernel_rfl⟩ ?_)
               | (refine cond_0 c0 ?_)
               | (refine Or.inl ⟨_, n2, ?_⟩)
               | (refine ⟨_, n2, ?_⟩)
               | (refine cond_1 b1 ?_)
               | (refine cond_1 t3 ?_)
               | (refine cond_1 t4 ?_)
               | (refine Or.inl ⟨_, n0, ?_⟩)
               | (refine ⟨_, n0, ?_⟩)
               | (refine cond_f ?_ ?_)
               | (refine ⟨_, ⟨by decide, rfl⟩, ?_⟩)
               | (refine cond_i (fun h => ?_) (fun h => ?_)))
      all_goals (conv => whnf)
      all_goals rfl
end Go.Proofs.Ytijohhdgecadnaa.Cn
namespace Go.Proofs.Ytijohhdgecadnaa.Av
open Go Go.RowKit Go.Deep Go.ChangeShapes Go.WideShapes
set_option linter.unusedVariables false

/-- Nothing is the call's own. -/
def C0 : Cx := Cx.out (fun _ => False)
structure Reads (w : World) (gs : List G) (cs : List Value) : Prop where
  len : cs.length = gs.length
  one : ∀ v ∈ cs, v.oneCell' = true
  rep : ∀ (i : Nat) g v, gs[i]? = some g → cs[i]? = some v → Rep C0 w g v
/-- Whatever is read as a value of type T reads as R x, and F holds of x. -/
def Opens {α : Type} (P : Program) (T : TypeId) (R : α → List G) (n : Nat) (F : α → Prop) : Prop :=
  P.cellsOf T = n ∧ (∀ x, (R x).length = n ∧ ∀ g ∈ R x, g.closed0 = true) ∧ ∀ (H : Type) (enc : TypeId × Value → H) (w : World) (spare : Nat → Bool) (held : Bool) (fuel : Nat) (cs : List Value) (d : DataW H) (ps : List MemPlace),
    DataW.trod enc P w 0 spare held fuel T cs = some (d, ps) → (∀ n ∈ d.weights P T, n ≤ reachBytes) → ∃ x, Reads w (R x) cs ∧ F x

theorem reads_one {w : World} {g : G} {v : Value} (hr : Rep C0 w g v) (hv : v.oneCell' = true) : Reads w [g] [v] :=
  ⟨rfl, fun u hu => by simp at hu; subst hu; exact hv, fun i g' v' hg hv' => by
    cases i with
    | zero => simp at hg hv'; subst hg; subst hv'; exact hr
    | succ i => simp at hg⟩
theorem Opens.imp {α : Type} {P : Program} {T : TypeId} {R : α → List G} {n : Nat} {F F' : α → Prop} (h : Opens P T R n F) (hi : ∀ x, F x → F' x) : Opens P T R n F' :=
  ⟨h.1, h.2.1, fun H enc w spare held fuel cs d ps ht hn => by
    obtain ⟨x, hK, hF⟩ := h.2.2 H enc w spare held fuel cs d ps ht hn
    exact ⟨x, hK, hi x hF⟩⟩
theorem opens_int {P : Program} {T : TypeId} {ik : IntKind} (hu : P.underlying T = some (.int ik)) (hc : P.cellsOf T = 1) : Opens P T (fun x : Int => [G.int ik x]) 1 (fun x => (Lit.int ik x).wf = true) :=
  ⟨hc, fun x => ⟨rfl, fun g hg => by simp at hg; subst hg; rfl⟩, fun H enc w spare held fuel cs d ps h _ => by
    obtain ⟨n, rfl, _, hw⟩ := DataW.trod_int hu h
    exact ⟨n, reads_one (.int _ _) rfl, hw⟩⟩
theorem opens_bool {P : Program} {T : TypeId} (hu : P.underlying T = some .bool) (hc : P.cellsOf T = 1) : Opens P T (fun x : Bool => [G.bool x]) 1 (fun _ => True) :=
  ⟨hc, fun x => ⟨rfl, fun g hg => by simp at hg; subst hg; rfl⟩, fun H enc w spare held fuel cs d ps h _ => by
    obtain ⟨b, rfl, _⟩ := DataW.trod_bool hu h
    exact ⟨b, reads_one (.bool _) rfl, trivial⟩⟩
theorem opens_string {P : Program} {T : TypeId} (hu : P.underlying T = some .string) (hc : P.cellsOf T = 1) : Opens P T (fun x : ByteArray => [G.str x]) 1 (fun s => s.size ≤ 140737488351232) :=
  ⟨hc, fun x => ⟨rfl, fun g hg => by simp at hg; subst hg; rfl⟩, fun H enc w spare held fuel cs d ps h hn => by
    obtain ⟨s, rfl, hx, _⟩ := DataW.trod_string hu h
    obtain ⟨rfl, rfl⟩ := Prod.mk.inj hx
    refine ⟨s, reads_one (.str _) rfl, ?_⟩
    have h1 := hn s.data.toList.length (by unfold DataW.weights; exact List.mem_singleton.2 rfl)
    have e2 : s.data.toList.length = s.size := by rw [Array.length_toList]; rfl
    rw [e2] at h1; exact h1⟩

theorem weights_mem_all {H : Type} {P : Program} {e : TypeId} : ∀ {ds : List (DataW H)} {d : DataW H}, d ∈ ds → ∀ n ∈ d.weights P e, n ∈ DataW.weightsAll P e ds
  | d0 :: ds, d, hd, n, hn => by
    simp only [DataW.weightsAll, List.mem_append]
    rcases List.mem_cons.1 hd with rfl | h
    · exact Or.inl hn
    · exact Or.inr (weights_mem_all h n hn)
theorem build_list {α : Type} (p : Nat → α → Prop) : ∀ n, (∀ i, i < n → ∃ x, p i x) → ∃ xs : List α, xs.length = n ∧ ∀ (i : Nat) (x : α), xs[i]? = some x → p i x
  | 0, _ => ⟨[], rfl, fun i x h => by simp at h⟩
  | n + 1, h => by
    obtain ⟨xs, hl, hp⟩ := build_list p n (fun i hi => h i (by omega))
    obtain ⟨x, hx⟩ := h n (by omega)
    refine ⟨xs ++ [x], by simp [hl], fun i y hy => ?_⟩
    by_cases hi : i < n
    · exact hp i y (by rwa [List.getElem?_append_left (by omega)] at hy)
    · rw [List.getElem?_append_right (by omega)] at hy
      obtain ⟨hz, hq⟩ : i - xs.length = 0 ∧ y = x := by
        cases hz : i - xs.length with
        | zero => rw [hz] at hy; simp at hy; exact ⟨rfl, hy.symm⟩
        | succ j => rw [hz] at hy; simp at hy
      have hin : i = n := by omega
      rw [hin, hq]; exact hx

theorem cell_block {w : World} {a : Addr} {v : Value} (h : w.cell? a = some v) : a.spot = none ∧ a.block < w.heap.size := by
  unfold World.cell? at h
  split at h
  · rename_i c _ _ hb
    split at h
    · cases h
    · rename_i hs
      exact ⟨by simpa using hs, (Array.getElem?_eq_some_iff.1 hb).1⟩
  · cases h

theorem opens_slice {α : Type} {P : Program} {T e : TypeId} {R : α → List G} {n : Nat} {F : α → Prop} (hu : P.underlying T = some (.slice e)) (hc : P.cellsOf T = 1) (hE : Opens P e R (n + 1) F) :
    Opens P T (fun xs : List α => [G.sl (xs.map R)]) 1 (fun xs => (∀ x ∈ xs, F x) ∧ xs.length * P.bytesOf e ≤ 140737488351232) :=
  ⟨hc, fun x => ⟨rfl, fun g hg => by simp at hg; subst hg; rfl⟩, fun H enc w spare held fuel cs d ps h hn => by
    rcases open_slice hu h with ⟨rfl, hx⟩ | ⟨a, len, cap, m, f, D, Pl, rfl, hb, hl, hm, hmm, hx, hel⟩
    · exact ⟨[], reads_one (.slnil none 0 (fun _ => rfl)) rfl, fun x hx => by simp at hx, by simp⟩
    · obtain ⟨rfl, rfl⟩ := Prod.mk.inj hx
      have hlm : len ≤ m := by rw [hmm]; split <;> omega
      have e0 : reachBytes = 140737488351232 := rfl
      have hW : ∀ i, i < len → ∀ n ∈ (D i).weights P e, n ≤ reachBytes := fun i hi n hni => hn n (by
        simp only [DataW.weights, hu, List.mem_cons, List.mem_append]
        exact Or.inr (Or.inl (weights_mem_all (List.mem_map.2 ⟨i, by simpa using hi, rfl⟩) n hni)))
      have hS : (len + (m - len)) * P.bytesOf e ≤ reachBytes := hn _ (by
        simp only [DataW.weights, hu, List.mem_cons]
        left; simp)
      obtain ⟨xs, hlen, hp⟩ := build_list (fun i x => ∃ cs', w.cells? 0 (a.add (i * (n + 1))) (n + 1) = some cs' ∧ Reads w (R x) cs' ∧ F x) len (fun i hi => by
        obtain ⟨cs', h1, h2⟩ := hel i (by omega)
        obtain ⟨x, hK, hF⟩ := hE.2.2 H enc w spare held f cs' _ _ h2 (hW i hi)
        exact ⟨x, cs', by rw [← hE.1]; exact h1, hK, hF⟩)
      subst hlen
      refine ⟨xs, reads_one ?_ rfl, fun x hx => ?_, ?_⟩
      · by_cases h0 : xs = []
        · subst h0; exact .slnil (some a) cap (fun e => by cases e)
        obtain ⟨x0, ys, rfl⟩ := List.exists_cons_of_ne_nil h0
        obtain ⟨hs, hlt⟩ : a.spot = none ∧ a.block < w.heap.size := by
          obtain ⟨cs', h1, hK, _⟩ := hp 0 x0 rfl
          obtain ⟨_, hl', hcc⟩ := World.cells?_some h1
          have := hcc 0 (by omega)
          rw [List.getElem?_eq_getElem (by omega)] at this
          have e1 : (a.add (0 * (n + 1))).add 0 = a := by simp [Addr.add]
          rw [e1] at this
          exact cell_block this
        generalize hxs : x0 :: ys = xs at *
        have hlm' : (xs.map R).length = xs.length := by simp
        rw [← hlm']
        refine .sl (xs.map R) a cap (n + 1) (fun i j => (w.cell? ⟨a.block, a.off + i * (n + 1) + j, none⟩).getD undef) hs hlt (fun h => h) (by rw [hlm']; omega) (fun r hr => ?_) (fun r hr g hg => ?_) (fun i r j g h1 h2 => ?_) (fun i r j g h1 h2 => ?_)
        · obtain ⟨x, _, rfl⟩ := List.mem_map.1 hr; exact (hE.2.1 x).1
        · obtain ⟨x, _, rfl⟩ := List.mem_map.1 hr; exact (hE.2.1 x).2 g hg
        all_goals
          rw [List.getElem?_map] at h1
          obtain ⟨x, hx, rfl⟩ := Option.map_eq_some_iff.1 h1
          obtain ⟨cs', q1, hK, _⟩ := hp i x hx
          obtain ⟨_, hl', hcc⟩ := World.cells?_some q1
          have hj : j < n + 1 := by rw [← (hE.2.1 x).1]; exact (List.getElem?_eq_some_iff.1 h2).1
          have hq := hcc j hj
          have ea : (a.add (i * (n + 1))).add j = ⟨a.block, a.off + i * (n + 1) + j, none⟩ := by
            rw [Deep.add_add]
            unfold Addr.add
            obtain ⟨ab, ao, asp⟩ := a
            simp only at hs; subst hs
            split
            · rename_i hz; simp [show i * (n + 1) = 0 by omega, show j = 0 by omega]
            · simp [Nat.add_assoc]
          rw [ea, List.getElem?_eq_getElem (by omega)] at hq
          rw [hq]
        · rfl
        · exact hK.rep j g _ h2 (List.getElem?_eq_getElem (by omega))
      · obtain ⟨i, hi⟩ := List.mem_iff_getElem?.1 hx
        obtain ⟨_, _, _, hF⟩ := hp i x hi
        exact hF
      · have : xs.length * P.bytesOf e ≤ (xs.length + (m - xs.length)) * P.bytesOf e := Nat.mul_le_mul_right _ (by omega)
        omega⟩

def OpensFs {α : Type} (P : Program) (fs : List Field) (off : Nat) (R : α → List G) (n : Nat) (F : α → Prop) : Prop :=
  (∀ x, (R x).length = n ∧ ∀ g ∈ R x, g.closed0 = true) ∧ ∀ (H : Type) (enc : TypeId × Value → H) (w : World) (spare : Nat → Bool) (held : Bool) (m : Nat) (cs : List Value) (xs : List (DataW H × List MemPlace)), cs.length = off + n → xs.length = fs.length →
    (∀ (i : Nat) (f : Field), fs[i]? = some f → DataW.trod enc P w 0 spare held m f.type ((cs.drop f.offset).take (P.cellsOf f.type)) = xs[i]?) →
    (∀ n ∈ DataW.weightsEach P (fs.map (·.type)) (xs.map (·.1)), n ≤ reachBytes) → ∃ x, Reads w (R x) (cs.drop off) ∧ F x
theorem fs_one {α : Type} {P : Program} {f : Field} {off : Nat} {R : α → List G} {n : Nat} {F : α → Prop} (ho : f.offset = off) (hO : Opens P f.type R n F) : OpensFs P [f] off R n F :=
  ⟨hO.2.1, fun H enc w spare held m cs xs hc hx hr hn => by
    subst ho
    match xs, hx with
    | [y], _ =>
      have h0 := hr 0 f rfl
      rw [hO.1, List.take_of_length_le (by rw [List.length_drop]; omega)] at h0
      exact hO.2.2 H enc w spare held m _ y.1 y.2 h0 (fun m hm => hn m (by simpa [DataW.weightsEach] using hm))⟩
theorem Reads.append {w : World} {gs hs : List G} {cs ds : List Value} (h : Reads w gs cs) (h' : Reads w hs ds) : Reads w (gs ++ hs) (cs ++ ds) :=
  ⟨by simp [h.len, h'.len], fun v hv => (List.mem_append.1 hv).elim (h.one v) (h'.one v), fun i g v hg hv => by
    by_cases hi : i < gs.length
    · rw [List.getElem?_append_left hi] at hg
      rw [List.getElem?_append_left (by rw [h.len]; exact hi)] at hv
      exact h.rep i g v hg hv
    · rw [List.getElem?_append_right (by omega)] at hg
      rw [List.getElem?_append_right (by rw [h.len]; omega), h.len] at hv
      exact h'.rep _ g v hg hv⟩
theorem fs_cons {α β : Type} {P : Program} {f : Field} {fs : List Field} {off off' : Nat} {R : α → List G} {R' : β → List G} {n n' : Nat} {F : α → Prop} {F' : β → Prop} (ho : f.offset = off) (ho' : off + n = off') (hO : Opens P f.type R n F) (hR : OpensFs P fs off' R' n' F') :
    OpensFs P (f :: fs) off (fun x : α × β => R x.1 ++ R' x.2) (n + n') (fun x => F x.1 ∧ F' x.2) :=
  ⟨fun x => ⟨by rw [List.length_append, (hO.2.1 x.1).1, (hR.1 x.2).1], fun g hg => (List.mem_append.1 hg).elim ((hO.2.1 x.1).2 g) ((hR.1 x.2).2 g)⟩, fun H enc w spare held m cs xs hc hx hr hn => by
    subst ho; subst ho'
    match xs, hx with
    | y :: ys, hx =>
      have h0 := hr 0 f rfl
      rw [hO.1] at h0
      obtain ⟨a, hK, hF⟩ := hO.2.2 H enc w spare held m _ y.1 y.2 h0 (fun m hm => hn m (by simp only [List.map_cons, DataW.weightsEach, List.mem_append]; exact Or.inl hm))
      obtain ⟨b, hK', hF'⟩ := hR.2 H enc w spare held m cs ys (by omega) (by simpa using hx) (fun i g hg => by simpa using hr (i + 1) g (by simpa using hg)) (fun m hm => hn m (by simp only [List.map_cons, DataW.weightsEach, List.mem_append]; exact Or.inr hm))
      refine ⟨(a, b), ?_, hF, hF'⟩
      have := hK.append hK'
      rwa [← List.drop_drop, List.take_append_drop] at this⟩
theorem opens_struct {α : Type} {P : Program} {T : TypeId} {fs : Array Field} {R : α → List G} {n : Nat} {F : α → Prop} (hu : P.underlying T = some (.struct fs)) (hc : P.cellsOf T = n) (hf : OpensFs P fs.toList 0 R n F) : Opens P T R n F :=
  ⟨hc, hf.1, fun H enc w spare held fuel cs d ps h hn => by
    obtain ⟨xs, m, _, hx, hl, hxl, hr⟩ := DataW.trod_struct hu h
    obtain ⟨rfl, rfl⟩ := Prod.mk.inj hx
    have := hf.2 H enc w spare held m cs xs (by omega) (by simpa using hxl) (fun i f hi => hr i f (by simpa using hi)) (fun m hm => hn m (by simp only [DataW.weights, hu]; exact hm))
    simpa using this⟩
/-- The same, in a type of one's own. -/
theorem opens_iso {α β : Type} {P : Program} {T : TypeId} {R : α → List G} {n : Nat} {F : α → Prop} (f : β → α) (g : α → β) (hfg : ∀ a, f (g a) = a) (hO : Opens P T R n F) {R' : β → List G} (hR : ∀ b, R' b = R (f b)) : Opens P T R' n (fun b => F (f b)) :=
  ⟨hO.1, fun x => by rw [hR]; exact hO.2.1 (f x), fun H enc w spare held fuel cs d ps h hn => by
    obtain ⟨x, hK, hF⟩ := hO.2.2 H enc w spare held fuel cs d ps h hn
    exact ⟨g x, by rw [hR, hfg]; exact hK, by show F (f (g x)); rw [hfg]; exact hF⟩⟩

/-- A value's cells as a value: a struct's, or another one's. -/
theorem param_struct {α H : Type} {P : Program} {T : TypeId} {fs : Array Field} {R : α → List G} {n : Nat} {F : α → Prop} {enc : TypeId × Value → H} {w : World} {r : Reach} {b : Nat} {spare : Nat → Bool} {held : Bool} {v : Value} {d : DataW H} {p : List MemPlace}
    (hu : P.underlying T = some (.struct fs)) (hO : Opens P T R n F) (hv : Value.okWide P w r b T v) (h : DataW.Trod enc P w 0 spare held T v d p) (hn : ∀ n ∈ d.weights P T, n ≤ reachBytes) :
    ∃ x, Rep C0 w (.agg (R x)) v ∧ F x := by
  obtain ⟨cs, rfl, _⟩ := okWide_struct hu hv
  obtain ⟨fuel, hf⟩ := h
  obtain ⟨x, hK, hF⟩ := hO.2.2 H enc w spare held fuel _ d p hf hn
  refine ⟨x, ?_, hF⟩
  have e : (Value.agg cs).cells.toList = cs.toList := rfl
  rw [e] at hK
  exact .agg _ cs.toList hK.len (fun g hg => closed0_cell ((hO.2.1 x).2 g hg)) hK.one hK.rep
theorem param_one {α H : Type} {P : Program} {T : TypeId} {R : α → List G} {g : α → G} {F : α → Prop} {enc : TypeId × Value → H} {w : World} {spare : Nat → Bool} {held : Bool} {v : Value} {d : DataW H} {p : List MemPlace}
    (hO : Opens P T R 1 F) (hR : ∀ x, R x = [g x]) (hc : v.cells = #[v]) (h : DataW.Trod enc P w 0 spare held T v d p) (hn : ∀ n ∈ d.weights P T, n ≤ reachBytes) :
    ∃ x, Rep C0 w (g x) v ∧ F x := by
  obtain ⟨fuel, hf⟩ := h
  rw [hc] at hf
  obtain ⟨x, hK, hF⟩ := hO.2.2 H enc w spare held fuel _ d p hf hn
  exact ⟨x, hK.rep 0 _ _ (by rw [hR]; rfl) rfl, hF⟩
theorem param_slice {α H : Type} {P : Program} {T e : TypeId} {R : α → List G} {g : α → G} {F : α → Prop} {enc : TypeId × Value → H} {w : World} {r : Reach} {b : Nat} {spare : Nat → Bool} {held : Bool} {v : Value} {d : DataW H} {p : List MemPlace}
    (hu : P.underlying T = some (.slice e)) (hO : Opens P T R 1 F) (hR : ∀ x, R x = [g x]) (hv : Value.okWide P w r b T v) (h : DataW.Trod enc P w 0 spare held T v d p) (hn : ∀ n ∈ d.weights P T, n ≤ reachBytes) :
    ∃ x, Rep C0 w (g x) v ∧ F x := by
  obtain ⟨a, len, cap, rfl⟩ := okWide_slice hu hv
  exact param_one hO hR rfl h hn
theorem param_int {α H : Type} {P : Program} {T : TypeId} {ik : IntKind} {R : α → List G} {g : α → G} {F : α → Prop} {enc : TypeId × Value → H} {w : World} {r : Reach} {b : Nat} {spare : Nat → Bool} {held : Bool} {v : Value} {d : DataW H} {p : List MemPlace}
    (hu : P.underlying T = some (.int ik)) (hO : Opens P T R 1 F) (hR : ∀ x, R x = [g x]) (hv : Value.okWide P w r b T v) (h : DataW.Trod enc P w 0 spare held T v d p) (hn : ∀ n ∈ d.weights P T, n ≤ reachBytes) :
    ∃ x, Rep C0 w (g x) v ∧ F x := by
  obtain ⟨m, rfl⟩ := okWide_int hu hv
  exact param_one hO hR rfl h hn
theorem param_bool {α H : Type} {P : Program} {T : TypeId} {R : α → List G} {g : α → G} {F : α → Prop} {enc : TypeId × Value → H} {w : World} {r : Reach} {b : Nat} {spare : Nat → Bool} {held : Bool} {v : Value} {d : DataW H} {p : List MemPlace}
    (hu : P.underlying T = some .bool) (hO : Opens P T R 1 F) (hR : ∀ x, R x = [g x]) (hv : Value.okWide P w r b T v) (h : DataW.Trod enc P w 0 spare held T v d p) (hn : ∀ n ∈ d.weights P T, n ≤ reachBytes) :
    ∃ x, Rep C0 w (g x) v ∧ F x := by
  obtain ⟨m, rfl⟩ := okWide_bool hu hv
  exact param_one hO hR rfl h hn
theorem param_string {α H : Type} {P : Program} {T : TypeId} {R : α → List G} {g : α → G} {F : α → Prop} {enc : TypeId × Value → H} {w : World} {r : Reach} {b : Nat} {spare : Nat → Bool} {held : Bool} {v : Value} {d : DataW H} {p : List MemPlace}
    (hu : P.underlying T = some .string) (hO : Opens P T R 1 F) (hR : ∀ x, R x = [g x]) (hv : Value.okWide P w r b T v) (h : DataW.Trod enc P w 0 spare held T v d p) (hn : ∀ n ∈ d.weights P T, n ≤ reachBytes) :
    ∃ x, Rep C0 w (g x) v ∧ F x := by
  obtain ⟨m, rfl⟩ := okWide_string hu hv
  exact param_one hO hR rfl h hn
/-- A parameter's weights, out of all. -/
theorem param_weights {H : Type} {P : Program} {ts : List TypeId} {ds : List (DataW H)} (h : (DataW.weightsEach P ts ds).all (· ≤ reachBytes) = true) {j : Nat} {t : TypeId} {d : DataW H} (ht : ts[j]? = some t) (hd : ds[j]? = some d) : ∀ n ∈ d.weights P t, n ≤ reachBytes :=
  fun n hn => by simpa using List.all_eq_true.1 h n (DataW.weights_mem_each ht hd n hn)

/-- A call of a law, by what its arguments read as. -/
theorem Fv.calls {P : Program} {f : FuncId} {gs : List G} {b : Bool} (h : Fv P f gs (.bool b)) {w : World} (hfx : Fixed w C0.ex) {vs : List Value} (hl : vs.length = gs.length) (hr : ∀ (i : Nat) g v, gs[i]? = some g → vs[i]? = some v → Rep C0 w g v) :
    Calls P f ⟨vs⟩ w fun e w' => e = .returned (.bool b) ∧ Below w.heap.size w w' := by
  refine (h.2 C0 w (fun _ => False) vs hl hr (mem0 w _ (fun B h => h.elim)) (fun B h => h.elim) (fun b B h => by cases h) (fun k B s sz n h => by cases h) hfx).mono fun e w' ⟨v, C', g, bs, rs, he, hR, hv, hM, hE⟩ => ?_
  obtain ⟨rfl, _, _⟩ := hR
  cases hv
  exact ⟨he, ⟨hE.fr.os, hE.fr.tape, hE.fr.output, hE.fr.size, fun B hB => hE.fr.block B hB (fun h => h)⟩⟩
end Go.Proofs.Ytijohhdgecadnaa.Av
