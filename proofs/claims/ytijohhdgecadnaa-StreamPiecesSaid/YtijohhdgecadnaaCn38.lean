/- Law 38: however a stream is cut to pieces, the same messages come out. No condition but sizes. -/
import Derived.Test.YtijohhdgecadnaaSp1
import Derived.Test.YtijohhdgecadnaaProg
import Derived.KernelRfl
import Derived.Test.YtijohhdgecadnaaCn37
import Derived.Test.YtijohhdgecadnaaAv16
namespace Go.Proofs.Ytijohhdgecadnaa.Cn
open Go Go.Proofs Go.Proofs.Ytijohhdgecadnaa.Av Go.Proofs.Ytijohhdgecadnaa.Sp
set_option linter.unusedVariables false
set_option linter.unusedSimpArgs false
set_option maxRecDepth 100000
attribute [local irreducible] Fv Fp

theorem pieces_no (t : ByteArray) (cs : List Int) (h : t.size > 2000 ∨ cs.length > 30) : Fv Try.prog 8 [.str t, .sl (cs.map intG)] (.bool true) := by
  have aw := law38_awake
  refine Fv.of_awp Try.func8 rfl (by kernel_rfl) rfl (Nat.le_of_ble_eq_true rfl) ?_
  by_cases h1 : t.size > 2000
  · have b1 : decide ((t.size : Int) > 2000) = true := decide_eq_true (by omega)
    repeat' (conv => whnf
             first
             | (refine And.intro (by kernel_rfl) ?_)
             | (refine And.intro ⟨by kernel_rfl, by kernel_rfl⟩ ?_)
             | (refine cond_1 b1 ?_)
             | (refine Or.inl ⟨_, aw, ?_⟩)
             | (refine ⟨_, aw, ?_⟩)
             | (refine cond_f ?_ ?_)
             | (refine ⟨_, ⟨by decide, rfl⟩, ?_⟩)
             | (refine cond_i (fun h => ?_) (fun h => ?_)))
    all_goals (conv => whnf)
    all_goals rfl
  · have b1 : decide ((t.size : Int) > 2000) = false := decide_eq_false (by omega)
    have b2 : decide (((cs.map intG).length : Int) > 30) = true := decide_eq_true (by rw [List.length_map]; omega)
    repeat' (conv => whnf
             first
             | (refine And.intro (by kernel_rfl) ?_)
             | (refine And.intro ⟨by kernel_rfl, by kernel_rfl⟩ ?_)
             | (refine cond_0 b1 ?_)
             | (refine cond_1 b2 ?_)
             | (refine Or.inl ⟨_, aw, ?_⟩)
             | (refine ⟨_, aw, ?_⟩)
             | (refine cond_f ?_ ?_)
             | (refine ⟨_, ⟨by decide, rfl⟩, ?_⟩)
             | (refine cond_i (fun h => ?_) (fun h => ?_)))
    all_goals (conv => whnf)
    all_goals rfl
theorem cat_take (ps : List ByteArray) (k : Nat) (h : k < ps.length) : catB (ps.take (k + 1)) = catB (ps.take k) ++ ps[k] := by
  rw [List.take_succ_eq_append_getElem h, catB_snoc]
theorem cat_size (ps : List ByteArray) (k : Nat) : (catB (ps.take k)).size ≤ (catB ps).size := by
  have h := List.take_append_drop k ps
  have e : catB ps = catB (ps.take k) ++ catB (ps.drop k) := by
    conv => lhs; rw [← h]
    unfold catB
    rw [List.foldl_append, catB_from]
    rfl
  rw [e, app_size]; omega
theorem runM_none0 (m : Stm) (h : m.s.size = 0) : runM m = ([], m) := runM_none (by unfold nextM; rw [if_pos (.inr h)])
structure PcS where
  acc : List Msg
  m : Stm
set_option maxHeartbeats 16000000 in
theorem law38_StreamPieces (t : ByteArray) (cs : List Int) : Fv Try.prog 8 [.str t, .sl (cs.map intG)] (.bool true) := by
  by_cases hno : t.size > 2000 ∨ cs.length > 30
  · exact pieces_no t cs hno
  have b1 : decide ((t.size : Int) > 2000) = false := decide_eq_false (by omega)
  have b2 : decide (((cs.map intG).length : Int) > 30) = false := decide_eq_false (by rw [List.length_map]; omega)
  have aw := law38_awake
  have n0 := st_New
  have hm : (feedM ⟨emptyB, false, 0⟩ t) = runM ⟨t, false, 0⟩ := by unfold feedM; simp only [empty_app]
  have n1 := st_Feed ⟨emptyB, false, 0⟩ t rfl (by show 0 + _ < _; omega) (by rw [hm]; exact runM_len2 (by omega))
  rw [hm] at n1
  have n2 := law38_pieces t cs (by omega) (by omega)
  have hcat := piecesF_cat t cs 0 (Nat.zero_le _)
  rw [ByteArray.extract_zero_size] at hcat
  have hpl := piecesF_len t cs 0
  obtain ⟨ps, hps⟩ : ∃ ps, piecesF t cs 0 = ps := ⟨_, rfl⟩
  rw [hps] at n2 hcat hpl
  obtain ⟨A, hA⟩ : ∃ A, runM ⟨t, false, 0⟩ = A := ⟨_, rfl⟩
  have hAl : A.1.length < 1000000 := by rw [← hA]; exact runM_len2 (by omega)
  rw [hA] at n1
  refine Fv.of_awp Try.func8 rfl (by kernel_rfl) rfl (Nat.le_of_ble_eq_true rfl) ?_
  repeat' (conv => whnf
           first
           | (refine And.intro (by kernel_rfl) ?_)
           | (refine And.intro ⟨by kernel_rfl, by kernel_rfl⟩ ?_)
           | (refine cond_0 b1 ?_)
           | (refine cond_0 b2 ?_)
           | (refine Or.inr ⟨_, n0, ?_⟩)
           | (refine Or.inr ⟨_, n1, ?_⟩)
           | (refine Or.inr ⟨_, n2, ?_⟩)
           | (refine cond_f ?_ ?_)
           | (refine ⟨_, ⟨by decide, rfl⟩, ?_⟩)
           | (refine cond_i (fun h => ?_) (fun h => ?_)))
  all_goals (conv => whnf)
  refine Has.own0 10 52 rfl rfl ?_
  refine Has.each [5, 6, 7, 8, 9, 10, 11, 12] [1047] ps.length (fun k (b : PcS) => runM ⟨catB (ps.take k), false, 0⟩ = (b.acc, b.m)) (fun b i =>
    St.of 93 [(5, .ptr 24 0), (6, .ptr 25 0), (7, .own 29 0 A.1.length), (8, .int .i64 A.2.bad), (9, .own 34 0 ps.length), (10, .own 52 0 b.acc.length), (11, .int .i64 b.m.bad), (12, .int .i64 i)]
      [(24, A.2.g), (25, b.m.g)] [(29, A.1.map Msg.g), (34, ps.map strG), (52, b.acc.map Msg.g)]) ⟨⟨[], ⟨emptyB, false, 0⟩⟩, 0, rfl, runM_none0 _ rfl, rfl⟩ (fun k b hk hI => ?_) (fun b hI => ?_)
  · obtain ⟨acc, m⟩ := b
    simp only at hI ⊢
    have f1 : (0 : Int) ≤ (k : Int) ∧ (k : Int) < ((ps.length : Nat) : Int) ∧ (ps.map strG)[(0 : Nat) + ((k : Int)).toNat]? = some (strG ps[k]) := ⟨by omega, by omega, by rw [Nat.zero_add]; exact (row_at (R := strG) hk).2⟩
    have f2 := f1.2.2
    have c1 : decide ((k : Int) < ((ps.length : Nat) : Int)) = true := decide_eq_true (by omega)
    have wk : IntKind.i64.wrap ((k : Int) + 1) = (k : Int) + 1 := wrap_i64 (by omega)
    have hcz := cat_size ps (k + 1)
    rw [hcat, cat_take ps k hk] at hcz
    have ht := cat_take ps k hk
    obtain ⟨p, hp⟩ : ∃ p, ps[k] = p := ⟨_, rfl⟩
    rw [hp] at f1 f2 hcz ht
    have ha := runM_app p ⟨catB (ps.take k), false, 0⟩ rfl
    simp only at ha
    rw [hI, ← ht] at ha
    simp only at ha
    have hms : m.s.size ≤ 2000 := by
      have h1 := runM_size ⟨catB (ps.take k), false, 0⟩
      rw [hI] at h1
      simp only [app_size] at h1 hcz
      omega
    have hps2 : p.size ≤ 2000 := by simp only [app_size] at hcz; omega
    by_cases hb : m.bad = 0
    · rw [if_pos hb] at ha
      have n3 := st_Feed m p hb (by omega) (by unfold feedM; have := runM_len ⟨m.s ++ p, m.last, 0⟩; simp only [app_size] at this; omega)
      have hf : runM ⟨m.s ++ p, m.last, 0⟩ = feedM m p := rfl
      rw [hf] at ha
      obtain ⟨F, hF⟩ : ∃ F, feedM m p = F := ⟨_, rfl⟩
      rw [hF] at ha n3
      have hlen : (acc ++ F.1).length < 1000000 := by
        have h1 := runM_len2 (s := catB (ps.take (k + 1))) (l := false) (by have := cat_size ps (k + 1); rw [hcat] at this; omega)
        rw [ha] at h1
        exact h1
      have f4 : 0 + acc.length ≤ (acc.map Msg.g).length ∧ (0 < acc.length + (F.1.map Msg.g).length ∨ acc.map Msg.g = []) ∧ fitsB Try.prog 60 (acc.length + (F.1.map Msg.g).length) ∧ ∀ r ∈ acc.map Msg.g, r.length = Try.prog.cellsOf 60 :=
        ⟨by simp, by
          cases acc with
          | nil => exact .inr rfl
          | cons x acc => exact .inl (by simp; omega), fits 24 (by kernel_rfl) (by simp at hlen ⊢; omega), fun r hr => by rw [show Try.prog.cellsOf 60 = 2 from by kernel_rfl]; exact msg_cell r hr⟩
      have ok : okRows (Try.prog.cellsOf 60) (F.1.map Msg.g) = true := ok_map 2 (by kernel_rfl) (fun _ => rfl) (fun _ => rfl)
      refine awp_go ?_
      repeat' (conv => whnf
               first
               | (refine And.intro (by kernel_rfl) ?_)
               | (refine And.intro ⟨by kernel_rfl, by kernel_rfl⟩ ?_)
               | (refine cond_1 c1 ?_)
               | (refine ⟨_, f1, ?_⟩)
               | (refine ⟨_, f2, ?_⟩)
               | (refine Or.inr ⟨_, n3, ?_⟩)
               | (refine ⟨own_le1, ?_⟩)
               | (rw [own_all1])
               | (refine cond_1 ok ?_)
               | (refine ⟨f4, ?_⟩)
               | (refine cond_f ?_ ?_)
               | (refine ⟨_, ⟨by decide, rfl⟩, ?_⟩)
               | (refine cond_i (fun h => ?_) (fun h => ?_)))
      all_goals (conv => whnf)
      have e2 : acc.length + (F.1.map Msg.g).length = (acc ++ F.1).length := by simp
      refine ⟨⟨acc ++ F.1, F.2⟩, _, ?_, ha, wk⟩
      simp only
      rw [List.map_append, ← e2]
      rfl
    · rw [if_neg hb] at ha
      have n3 := feed_bad m p hb
      have f4 : 0 + acc.length ≤ (acc.map Msg.g).length ∧ (0 < acc.length + ([] : List (List G)).length ∨ acc.map Msg.g = []) ∧ fitsB Try.prog 60 (acc.length + ([] : List (List G)).length) ∧ ∀ r ∈ acc.map Msg.g, r.length = Try.prog.cellsOf 60 :=
        ⟨by simp, by
          cases acc with
          | nil => exact .inr rfl
          | cons x acc => exact .inl (by simp), fits 24 (by kernel_rfl) (by
            have h1 := runM_len2 (s := catB (ps.take k)) (l := false) (by have := cat_size ps k; rw [hcat] at this; omega)
            rw [hI] at h1
            simp only [List.length_nil] at h1 ⊢; omega), fun r hr => by rw [show Try.prog.cellsOf 60 = 2 from by kernel_rfl]; exact msg_cell r hr⟩
      refine awp_go ?_
      repeat' (conv => whnf
               first
               | (refine And.intro (by kernel_rfl) ?_)
               | (refine And.intro ⟨by kernel_rfl, by kernel_rfl⟩ ?_)
               | (refine cond_1 c1 ?_)
               | (refine ⟨_, f1, ?_⟩)
               | (refine ⟨_, f2, ?_⟩)
               | (refine Or.inr ⟨_, n3, ?_⟩)
               | (refine ⟨f4, ?_⟩)
               | (refine cond_f ?_ ?_)
               | (refine ⟨_, ⟨by decide, rfl⟩, ?_⟩)
               | (refine cond_i (fun h => ?_) (fun h => ?_)))
      all_goals (conv => whnf)
      have e1 : ((acc.map Msg.g).drop 0).take acc.length ++ [] = acc.map Msg.g := by rw [own_all1, List.append_nil]
      refine ⟨⟨acc, m⟩, _, ?_, ha, wk⟩
      simp only
      conv => rhs; rw [← e1]
      rfl
  · obtain ⟨acc, m⟩ := b
    simp only at hI ⊢
    rw [List.take_length, hcat, hA] at hI
    obtain rfl : acc = A.1 := by rw [hI]
    obtain rfl : m = A.2 := by rw [hI]
    have c1 : decide (((ps.length : Nat) : Int) < ((ps.length : Nat) : Int)) = false := decide_eq_false (by omega)
    have c2 : (((A.1.length : Nat) : Int) != ((A.1.length : Nat) : Int)) = false := by simp
    refine awp_go ?_
    repeat' (conv => whnf
             first
             | (refine And.intro (by kernel_rfl) ?_)
             | (refine And.intro ⟨by kernel_rfl, by kernel_rfl⟩ ?_)
             | (refine cond_0 c1 ?_)
             | (refine cond_0 c2 ?_)
             | (refine cond_f ?_ ?_)
             | (refine ⟨_, ⟨by decide, rfl⟩, ?_⟩)
             | (refine cond_i (fun h => ?_) (fun h => ?_)))
    all_goals (conv => whnf)
    refine Has.each [5, 6, 7, 8, 10, 11, 14] [1034] A.1.length (fun k (b : Unit) => True) (fun b i =>
      St.of 93 [(5, .ptr 24 0), (6, .ptr 25 0), (7, .own 29 0 A.1.length), (8, .int .i64 A.2.bad), (10, .own 52 0 A.1.length), (11, .int .i64 A.2.bad), (14, .int .i64 i)]
        [(24, A.2.g), (25, A.2.g)] [(29, A.1.map Msg.g), (52, A.1.map Msg.g)]) ⟨(), 0, rfl, trivial, rfl⟩ (fun k b hk hI => ?_) (fun b hI => ?_)
    · have f1 : (0 : Int) ≤ (k : Int) ∧ (k : Int) < ((A.1.length : Nat) : Int) ∧ (A.1.map Msg.g)[(0 : Nat) + ((k : Int)).toNat]? = some (Msg.g A.1[k]) := ⟨by omega, by omega, by rw [Nat.zero_add]; exact (row_at (R := Msg.g) hk).2⟩
      have f2 := f1.2.2
      have d1 : decide ((k : Int) < ((A.1.length : Nat) : Int)) = true := decide_eq_true (by omega)
      have d2 : (!(strEq A.1[k].S A.1[k].S && ((A.1[k].last == A.1[k].last) && true))) = false := by rw [strEq_self]; simp
      refine awp_go ?_
      repeat' (conv => whnf
               first
               | (refine And.intro (by kernel_rfl) ?_)
               | (refine And.intro ⟨by kernel_rfl, by kernel_rfl⟩ ?_)
               | (refine cond_1 d1 ?_)
               | (refine ⟨_, f1, ?_⟩)
               | (refine ⟨_, f2, ?_⟩)
               | (refine cond_0 d2 ?_)
               | (refine cond_f ?_ ?_)
               | (refine ⟨_, ⟨by decide, rfl⟩, ?_⟩)
               | (refine cond_i (fun h => ?_) (fun h => ?_)))
      all_goals (conv => whnf)
      all_goals first | (exact And.intro (by kernel_rfl) ⟨(), _, rfl, trivial, wrap_i64 (by omega)⟩) | (exact ⟨(), _, rfl, trivial, wrap_i64 (by omega)⟩)
    · have d1 : decide (((A.1.length : Nat) : Int) < ((A.1.length : Nat) : Int)) = false := decide_eq_false (by omega)
      have n4 := st_Left A.2
      have n5 := st_Over A.2
      have c3 : (A.2.bad == A.2.bad) = true := by simp
      have c4 : (((A.2.s.size : Nat) : Int) == ((A.2.s.size : Nat) : Int)) = true := by simp
      have c5 : (A.2.last == A.2.last) = true := by simp
      refine awp_go ?_
      repeat' (conv => whnf
               first
               | (refine And.intro (by kernel_rfl) ?_)
               | (refine And.intro ⟨by kernel_rfl, by kernel_rfl⟩ ?_)
               | (refine cond_0 d1 ?_)
               | (refine cond_1 c3 ?_)
               | (refine Or.inr ⟨_, n4, ?_⟩)
               | (refine cond_1 c4 ?_)
               | (refine Or.inr ⟨_, n5, ?_⟩)
               | (refine cond_1 c5 ?_)
               | (refine Or.inl ⟨_, aw, ?_⟩)
               | (refine ⟨_, aw, ?_⟩)
               | (refine cond_f ?_ ?_)
               | (refine ⟨_, ⟨by decide, rfl⟩, ?_⟩)
               | (refine cond_i (fun h => ?_) (fun h => ?_)))
      all_goals (conv => whnf)
      all_goals rfl
end Go.Proofs.Ytijohhdgecadnaa.Cn
