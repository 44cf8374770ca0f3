
/- What a sender says to those whom it waits for. No condition but lengths. -/
import Derived.Test.YtfacmphjplablaaDoorCn60
namespace Go.Proofs.YtfacmphjplablaaDoor.Cn
open Go Go.Proofs Go.Proofs.YtfacmphjplablaaDoor.Av Go.Proofs.YtfacmphjplablaaDoor.Sp
set_option linter.unusedVariables false
set_option linter.unusedSimpArgs false
set_option linter.unusedSectionVars false
set_option maxRecDepth 100000
attribute [local irreducible] Fv Fp

theorem own_snoc {α : Type} {l : List α} {R : α → List G} {x : α} {r : List G} (h : R x = r) : ((l.map R).drop 0).take l.length ++ [r] = (l ++ [x]).map R := by
  rw [List.drop_zero, List.take_of_length_le (by simp), List.map_append, ← h]; rfl
theorem app_pk (l : List Packet) (r : List G) (h : l.length ≤ 1000) : 0 + l.length ≤ (l.map Packet.g).length ∧ (0 < l.length + [r].length ∨ l.map Packet.g = []) ∧ fitsB Tryd.prog 37 (l.length + [r].length) ∧ ∀ r ∈ l.map Packet.g, r.length = Tryd.prog.cellsOf 37 :=
  ⟨by simp, .inl (by simp), fits 192 (by kernel_rfl) (by simp; omega), fun r hr => by obtain ⟨x, _, rfl⟩ := List.mem_map.1 hr; rw [show Tryd.prog.cellsOf 37 = 23 from by kernel_rfl]; rfl⟩
theorem cancels1 (p : Packet) : Fv Tryd.prog 57 [.agg p.g] (.agg ({ p with kind := 3 } : Packet).g) := by
  refine Fv.of_awp Tryd.func57 rfl (by kernel_rfl) rfl (Nat.le_of_ble_eq_true rfl) ?_
  repeat' (conv => whnf
           first
           | (refine And.intro (by kernel_rfl) ?_)
           | (refine And.intro ⟨by kernel_rfl, by kernel_rfl⟩ ?_)
           | (refine cond_f ?_ ?_)
           | (refine ⟨_, ⟨by decide, rfl⟩, ?_⟩)
           | (refine cond_i (fun h => ?_) (fun h => ?_)))
  all_goals (conv => whnf)
  all_goals rfl
theorem keeps1 (p : Packet) (o : Owner) (u : Int) (n1 : Fv Tryd.prog 42 [.int .i64 o.until] (.int .i64 u)) : Fp Tryd.prog 58 [.agg p.g, .ptr 0 0] [o.g] [] (.agg ({ p with kind := 4, «until» := u } : Packet).g, [some o.g], []) := by
  refine Fp.of_awp Tryd.func58 rfl (by kernel_rfl) (Nat.le_of_ble_eq_true rfl) ?_
  repeat' (conv => whnf
           first
           | (refine And.intro (by kernel_rfl) ?_)
           | (refine And.intro ⟨by kernel_rfl, by kernel_rfl⟩ ?_)
           | (refine Or.inl ⟨_, n1, ?_⟩)
           | (refine ⟨_, n1, ?_⟩)
           | (refine cond_f ?_ ?_)
           | (refine ⟨_, ⟨by decide, rfl⟩, ?_⟩)
           | (refine cond_i (fun h => ?_) (fun h => ?_)))
  all_goals (conv => whnf)
  all_goals rfl
theorem waiting_C (me : Int) (o : Owner) (hs : o.calls.length ≤ 31) : Fv Tryd.prog 56 [.int .i64 me, .agg o.g, .fn 57 []] (.sl ((waitL 3 me 0 o.calls).map Packet.g)) := by
  refine Fv.of_awp Tryd.func56 rfl (by kernel_rfl) rfl (Nat.le_of_ble_eq_true rfl) ?_
  repeat' (conv => whnf
           first
           | (refine And.intro (by kernel_rfl) ?_)
           | (refine And.intro ⟨by kernel_rfl, by kernel_rfl⟩ ?_)
           | (refine cond_f ?_ ?_)
           | (refine ⟨_, ⟨by decide, rfl⟩, ?_⟩)
           | (refine cond_i (fun h => ?_) (fun h => ?_)))
  all_goals (conv => whnf)
  refine Has.own0 7 30 rfl rfl ?_
  refine Has.each [0, 2, 7, 11, 12, 13] [4, 9] o.calls.length (fun k (b : Nat × List (List G)) => b.1 = (waitL 3 me 0 (o.calls.take k)).length ∧ b.2 = (waitL 3 me 0 (o.calls.take k)).map Packet.g) (fun b i =>
    St.of 33 [(0, .int .i64 me), (2, .fn 57 []), (7, .own 30 0 b.1), (11, .sl (o.calls.map Call.g)), (12, .int .i64 ((o.calls.map Call.g).length : Nat)), (13, .int .i64 i)] [] [(30, b.2)]) ⟨(0, []), _, rfl, ⟨rfl, rfl⟩, rfl⟩ (fun k b hk hI => ?_) (fun b hI => ?_)
  · obtain ⟨n, xs⟩ := b
    obtain ⟨rfl, rfl⟩ : n = _ ∧ xs = _ := hI
    have hsn := waitL_snoc 3 me 0 o.calls k hk
    have hlen := waitL_len 3 me 0 (o.calls.take k)
    rw [List.length_take] at hlen
    obtain ⟨W, hW⟩ : ∃ W, waitL 3 me 0 (o.calls.take k) = W := ⟨_, rfl⟩
    rw [hW] at hsn hlen ⊢
    have n1 := call_Key o.calls[k]
    have n2 := cancels1 (waitP 0 me 0 o.calls[k])
    have ap := app_pk W ({ waitP 0 me 0 o.calls[k] with kind := 3 } : Packet).g (by omega)
    by_cases h : o.calls[k].state = 1
    · have b1 : (o.calls[k].state == 1) = true := beq_iff_eq.2 h
      rw [if_pos h] at hsn
      refine awp_go ?_
      repeat' (conv => whnf
               first
               | (refine And.intro (by kernel_rfl) ?_)
               | (refine And.intro ⟨by kernel_rfl, by kernel_rfl⟩ ?_)
               | (refine cond_1 (lt_at hk) ?_)
               | (refine ⟨_, row_at hk, ?_⟩)
               | (refine cond_1 b1 ?_)
               | (refine Or.inl ⟨_, n1, ?_⟩)
               | (refine ⟨_, n1, ?_⟩)
               | (refine Or.inl ⟨_, n2, ?_⟩)
               | (refine ⟨_, n2, ?_⟩)
               | (refine ⟨ap, ?_⟩)
               | (refine cond_f ?_ ?_)
               | (refine ⟨_, ⟨by decide, rfl⟩, ?_⟩)
               | (refine cond_i (fun h => ?_) (fun h => ?_)))
      all_goals (conv => whnf)
      refine ⟨(_, _), _, rfl, ⟨?_, ?_⟩, up1 hk (by omega)⟩
      · rw [hsn]; simp
      · rw [hsn]; exact own_snoc rfl
    · have b1 : (o.calls[k].state == 1) = false := beq_eq_false_iff_ne.2 h
      rw [if_neg h] at hsn
      refine awp_go ?_
      repeat' (conv => whnf
               first
               | (refine And.intro (by kernel_rfl) ?_)
               | (refine And.intro ⟨by kernel_rfl, by kernel_rfl⟩ ?_)
               | (refine cond_1 (lt_at hk) ?_)
               | (refine ⟨_, row_at hk, ?_⟩)
               | (refine cond_0 b1 ?_)
               | (refine cond_f ?_ ?_)
               | (refine ⟨_, ⟨by decide, rfl⟩, ?_⟩)
               | (refine cond_i (fun h => ?_) (fun h => ?_)))
      all_goals (conv => whnf)
      exact ⟨(_, _), _, rfl, ⟨by rw [hsn], by rw [hsn]⟩, up1 hk (by omega)⟩
  · obtain ⟨n, xs⟩ := b
    obtain ⟨rfl, rfl⟩ : n = _ ∧ xs = _ := hI
    rw [List.take_length]
    refine awp_go ?_
    repeat' (conv => whnf
             first
             | (refine And.intro (by kernel_rfl) ?_)
             | (refine And.intro ⟨by kernel_rfl, by kernel_rfl⟩ ?_)
             | (refine cond_0 lt_end ?_)
             | (refine ⟨own_le1, ?_⟩)
             | (rw [own_all1])
             | (refine cond_f ?_ ?_)
             | (refine ⟨_, ⟨by decide, rfl⟩, ?_⟩)
             | (refine cond_i (fun h => ?_) (fun h => ?_)))
    all_goals (conv => whnf)
    all_goals rfl
theorem waiting_K (me u : Int) (o : Owner) (hs : o.calls.length ≤ 31) (hu : Fv Tryd.prog 42 [.int .i64 o.until] (.int .i64 u)) :
    Fp Tryd.prog 56 [.int .i64 me, .agg o.g, .fn 58 [.ptr 0 0]] [o.g] [] (.own 0 0 (waitL 4 me u o.calls).length, [some o.g], [some ((waitL 4 me u o.calls).map Packet.g)]) := by
  refine Fp.of_awp Tryd.func56 rfl (by kernel_rfl) (Nat.le_of_ble_eq_true rfl) ?_
  repeat' (conv => whnf
           first
           | (refine And.intro (by kernel_rfl) ?_)
           | (refine And.intro ⟨by kernel_rfl, by kernel_rfl⟩ ?_)
           | (refine cond_f ?_ ?_)
           | (refine ⟨_, ⟨by decide, rfl⟩, ?_⟩)
           | (refine cond_i (fun h => ?_) (fun h => ?_)))
  all_goals (conv => whnf)
  refine Has.own0 7 30 rfl rfl ?_
  refine Has.each [0, 2, 7, 11, 12, 13] [4, 9] o.calls.length (fun k (b : Nat × List (List G)) => b.1 = (waitL 4 me u (o.calls.take k)).length ∧ b.2 = (waitL 4 me u (o.calls.take k)).map Packet.g) (fun b i =>
    St.ofP 33 1 0 [(0, .int .i64 me), (2, .fn 58 [.ptr 41 0]), (7, .own 30 0 b.1), (11, .sl (o.calls.map Call.g)), (12, .int .i64 ((o.calls.map Call.g).length : Nat)), (13, .int .i64 i)] [(41, o.g)] [(30, b.2)]) ⟨(0, []), _, rfl, ⟨rfl, rfl⟩, rfl⟩ (fun k b hk hI => ?_) (fun b hI => ?_)
  · obtain ⟨n, xs⟩ := b
    obtain ⟨rfl, rfl⟩ : n = _ ∧ xs = _ := hI
    have hsn := waitL_snoc 4 me u o.calls k hk
    have hlen := waitL_len 4 me u (o.calls.take k)
    rw [List.length_take] at hlen
    obtain ⟨W, hW⟩ : ∃ W, waitL 4 me u (o.calls.take k) = W := ⟨_, rfl⟩
    rw [hW] at hsn hlen ⊢
    have n1 := call_Key o.calls[k]
    have n2 := keeps1 (waitP 0 me 0 o.calls[k]) o u hu
    have ap := app_pk W ({ waitP 0 me 0 o.calls[k] with kind := 4, «until» := u } : Packet).g (by omega)
    by_cases h : o.calls[k].state = 1
    · have b1 : (o.calls[k].state == 1) = true := beq_iff_eq.2 h
      rw [if_pos h] at hsn
      refine awp_go ?_
      repeat' (conv => whnf
               first
               | (refine And.intro (by kernel_rfl) ?_)
               | (refine And.intro ⟨by kernel_rfl, by kernel_rfl⟩ ?_)
               | (refine cond_1 (lt_at hk) ?_)
               | (refine ⟨_, row_at hk, ?_⟩)
               | (refine cond_1 b1 ?_)
               | (refine Or.inl ⟨_, n1, ?_⟩)
               | (refine ⟨_, n1, ?_⟩)
               | (refine Or.inr ⟨_, n2, ?_⟩)
               | (refine ⟨ap, ?_⟩)
               | (refine cond_f ?_ ?_)
               | (refine ⟨_, ⟨by decide, rfl⟩, ?_⟩)
               | (refine cond_i (fun h => ?_) (fun h => ?_)))
      all_goals (conv => whnf)
      refine ⟨(_, _), _, rfl, ⟨?_, ?_⟩, up1 hk (by omega)⟩
      · rw [hsn]; simp
      · rw [hsn]; exact own_snoc rfl
    · have b1 : (o.calls[k].state == 1) = false := beq_eq_false_iff_ne.2 h
      rw [if_neg h] at hsn
      refine awp_go ?_
      repeat' (conv => whnf
               first
               | (refine And.intro (by kernel_rfl) ?_)
               | (refine And.intro ⟨by kernel_rfl, by kernel_rfl⟩ ?_)
               | (refine cond_1 (lt_at hk) ?_)
               | (refine ⟨_, row_at hk, ?_⟩)
               | (refine cond_0 b1 ?_)
               | (refine cond_f ?_ ?_)
               | (refine ⟨_, ⟨by decide, rfl⟩, ?_⟩)
               | (refine cond_i (fun h => ?_) (fun h => ?_)))
      all_goals (conv => whnf)
      exact ⟨(_, _), _, rfl, ⟨by rw [hsn], by rw [hsn]⟩, up1 hk (by omega)⟩
  · obtain ⟨n, xs⟩ := b
    obtain ⟨rfl, rfl⟩ : n = _ ∧ xs = _ := hI
    rw [List.take_length]
    refine awp_go ?_
    repeat' (conv => whnf
             first
             | (refine And.intro (by kernel_rfl) ?_)
             | (refine And.intro ⟨by kernel_rfl, by kernel_rfl⟩ ?_)
             | (refine cond_0 lt_end ?_)
             | (refine cond_f ?_ ?_)
             | (refine ⟨_, ⟨by decide, rfl⟩, ?_⟩)
             | (refine cond_i (fun h => ?_) (fun h => ?_)))
    all_goals (conv => whnf)
    all_goals rfl
theorem sender_Cancels (me : Int) (o : Owner) (hs : o.calls.length ≤ 31) : Fv Tryd.prog 26 [.int .i64 me, .agg o.g] (.sl ((waitL 3 me 0 o.calls).map Packet.g)) := by
  refine Fv.of_awp Tryd.func26 rfl (by kernel_rfl) rfl (Nat.le_of_ble_eq_true rfl) ?_
  repeat' (conv => whnf
           first
           | (refine And.intro (by kernel_rfl) ?_)
           | (refine And.intro ⟨by kernel_rfl, by kernel_rfl⟩ ?_)
           | (refine Or.inl ⟨_, waiting_C me o hs, ?_⟩)
           | (refine ⟨_, waiting_C me o hs, ?_⟩)
           | (refine cond_f ?_ ?_)
           | (refine ⟨_, ⟨by decide, rfl⟩, ?_⟩)
           | (refine cond_i (fun h => ?_) (fun h => ?_)))
  all_goals (conv => whnf)
  all_goals rfl
theorem sender_Keeps (me u : Int) (o : Owner) (hs : o.calls.length ≤ 31) (hu : Fv Tryd.prog 42 [.int .i64 o.until] (.int .i64 u)) : Fv Tryd.prog 28 [.int .i64 me, .agg o.g] (.sl ((waitL 4 me u o.calls).map Packet.g)) := by
  refine Fv.of_awp Tryd.func28 rfl (by kernel_rfl) rfl (Nat.le_of_ble_eq_true rfl) ?_
  repeat' (conv => whnf
           first
           | (refine And.intro (by kernel_rfl) ?_)
           | (refine And.intro ⟨by kernel_rfl, by kernel_rfl⟩ ?_)
           | (refine Or.inr ⟨_, waiting_K me u o hs hu, ?_⟩)
           | (refine ⟨own_le1, ?_⟩)
           | (rw [own_all1])
           | (refine cond_f ?_ ?_)
           | (refine ⟨_, ⟨by decide, rfl⟩, ?_⟩)
           | (refine cond_i (fun h => ?_) (fun h => ?_)))
  all_goals (conv => whnf)
  all_goals rfl
theorem ref26_Waiting3 (me : Int) (o : Owner) (hs : o.calls.length ≤ 31) : Fv Tryd.prog 27 [.int .i64 3, .int .i64 me, .agg o.g] (.sl ((waitL 3 me 0 o.calls).map Packet.g)) := by
  refine Fv.of_awp Tryd.func27 rfl (by kernel_rfl) rfl (Nat.le_of_ble_eq_true rfl) ?_
  repeat' (conv => whnf
           first
           | (refine And.intro (by kernel_rfl) ?_)
           | (refine And.intro ⟨by kernel_rfl, by kernel_rfl⟩ ?_)
           | (refine cond_f ?_ ?_)
           | (refine ⟨_, ⟨by decide, rfl⟩, ?_⟩)
           | (refine cond_i (fun h => ?_) (fun h => ?_)))
  all_goals (conv => whnf)
  refine Has.own0 7 42 rfl rfl ?_
  refine Has.each [0, 1, 5, 7, 8] [9, 10] o.calls.length (fun k (b : Nat × List (List G)) => b.1 = (waitL 3 me 0 (o.calls.take k)).length ∧ b.2 = (waitL 3 me 0 (o.calls.take k)).map Packet.g) (fun b i =>
    St.of 44 [(0, .int .i64 3), (1, .int .i64 me), (5, .ptr 5 0), (7, .own 42 0 b.1), (8, .int .i64 i)] [(5, o.g)] [(42, b.2)]) ⟨(0, []), _, rfl, ⟨rfl, rfl⟩, rfl⟩ (fun k b hk hI => ?_) (fun b hI => ?_)
  · obtain ⟨n, xs⟩ := b
    obtain ⟨rfl, rfl⟩ : n = _ ∧ xs = _ := hI
    have hsn := waitL_snoc 3 me 0 o.calls k hk
    have hlen := waitL_len 3 me 0 (o.calls.take k)
    rw [List.length_take] at hlen
    obtain ⟨W, hW⟩ : ∃ W, waitL 3 me 0 (o.calls.take k) = W := ⟨_, rfl⟩
    rw [hW] at hsn hlen ⊢
    have n1 := ref21_Key o.calls[k]
    have ap := app_pk W (waitP 3 me 0 o.calls[k]).g (by omega)
    by_cases h : o.calls[k].state = 1
    · have b0 : (o.calls[k].state == 1) = true := beq_iff_eq.2 h
      have b1 : (!(o.calls[k].state == 1)) = false := by rw [b0]; rfl
      rw [if_pos h] at hsn
      refine awp_go ?_
      repeat' (conv => whnf
               first
               | (refine And.intro (by kernel_rfl) ?_)
               | (refine And.intro ⟨by kernel_rfl, by kernel_rfl⟩ ?_)
               | (refine cond_1 (lt_at hk) ?_)
               | (refine ⟨_, row_at hk, ?_⟩)
               | (refine cond_0 b1 ?_)
               | (refine cond_1 b0 ?_)
               | (refine Or.inl ⟨_, n1, ?_⟩)
               | (refine ⟨_, n1, ?_⟩)
               | (refine ⟨ap, ?_⟩)
               | (refine cond_f ?_ ?_)
               | (refine ⟨_, ⟨by decide, rfl⟩, ?_⟩)
               | (refine cond_i (fun h => ?_) (fun h => ?_)))
      all_goals (conv => whnf)
      refine ⟨(_, _), _, rfl, ⟨?_, ?_⟩, up1 hk (by omega)⟩
      · rw [hsn]; simp
      · rw [hsn]; exact own_snoc rfl
    · have b0 : (o.calls[k].state == 1) = false := beq_eq_false_iff_ne.2 h
      have b1 : (!(o.calls[k].state == 1)) = true := by rw [b0]; rfl
      rw [if_neg h] at hsn
      refine awp_go ?_
      repeat' (conv => whnf
               first
               | (refine And.intro (by kernel_rfl) ?_)
               | (refine And.intro ⟨by kernel_rfl, by kernel_rfl⟩ ?_)
               | (refine cond_1 (lt_at hk) ?_)
               | (refine ⟨_, row_at hk, ?_⟩)
               | (refine cond_1 b1 ?_)
               | (refine cond_0 b0 ?_)
               | (refine cond_f ?_ ?_)
               | (refine ⟨_, ⟨by decide, rfl⟩, ?_⟩)
               | (refine cond_i (fun h => ?_) (fun h => ?_)))
      all_goals (conv => whnf)
      exact ⟨(_, _), _, rfl, ⟨by rw [hsn], by rw [hsn]⟩, up1 hk (by omega)⟩
  · obtain ⟨n, xs⟩ := b
    obtain ⟨rfl, rfl⟩ : n = _ ∧ xs = _ := hI
    rw [List.take_length]
    refine awp_go ?_
    repeat' (conv => whnf
             first
             | (refine And.intro (by kernel_rfl) ?_)
             | (refine And.intro ⟨by kernel_rfl, by kernel_rfl⟩ ?_)
             | (refine cond_0 lt_end ?_)
             | (refine ⟨own_le1, ?_⟩)
             | (rw [own_all1])
             | (refine cond_f ?_ ?_)
             | (refine ⟨_, ⟨by decide, rfl⟩, ?_⟩)
             | (refine cond_i (fun h => ?_) (fun h => ?_)))
    all_goals (conv => whnf)
    all_goals rfl
theorem ref26_Waiting4 (me u : Int) (o : Owner) (hs : o.calls.length ≤ 31) (hu : Fv Tryd.prog 16 [.int .i64 o.until] (.int .i64 u)) : Fv Tryd.prog 27 [.int .i64 4, .int .i64 me, .agg o.g] (.sl ((waitL 4 me u o.calls).map Packet.g)) := by
  refine Fv.of_awp Tryd.func27 rfl (by kernel_rfl) rfl (Nat.le_of_ble_eq_true rfl) ?_
  repeat' (conv => whnf
           first
           | (refine And.intro (by kernel_rfl) ?_)
           | (refine And.intro ⟨by kernel_rfl, by kernel_rfl⟩ ?_)
           | (refine cond_f ?_ ?_)
           | (refine ⟨_, ⟨by decide, rfl⟩, ?_⟩)
           | (refine cond_i (fun h => ?_) (fun h => ?_)))
  all_goals (conv => whnf)
  refine Has.own0 7 42 rfl rfl ?_
  refine Has.each [0, 1, 5, 7, 8] [9, 10] o.calls.length (fun k (b : Nat × List (List G)) => b.1 = (waitL 4 me u (o.calls.take k)).length ∧ b.2 = (waitL 4 me u (o.calls.take k)).map Packet.g) (fun b i =>
    St.of 44 [(0, .int .i64 4), (1, .int .i64 me), (5, .ptr 5 0), (7, .own 42 0 b.1), (8, .int .i64 i)] [(5, o.g)] [(42, b.2)]) ⟨(0, []), _, rfl, ⟨rfl, rfl⟩, rfl⟩ (fun k b hk hI => ?_) (fun b hI => ?_)
  · obtain ⟨n, xs⟩ := b
    obtain ⟨rfl, rfl⟩ : n = _ ∧ xs = _ := hI
    have hsn := waitL_snoc 4 me u o.calls k hk
    have hlen := waitL_len 4 me u (o.calls.take k)
    rw [List.length_take] at hlen
    obtain ⟨W, hW⟩ : ∃ W, waitL 4 me u (o.calls.take k) = W := ⟨_, rfl⟩
    rw [hW] at hsn hlen ⊢
    have n1 := ref21_Key o.calls[k]
    have ap := app_pk W (waitP 4 me u o.calls[k]).g (by omega)
    by_cases h : o.calls[k].state = 1
    · have b0 : (o.calls[k].state == 1) = true := beq_iff_eq.2 h
      have b1 : (!(o.calls[k].state == 1)) = false := by rw [b0]; rfl
      rw [if_pos h] at hsn
      refine awp_go ?_
      repeat' (conv => whnf
               first
               | (refine And.intro (by kernel_rfl) ?_)
               | (refine And.intro ⟨by kernel_rfl, by kernel_rfl⟩ ?_)
               | (refine cond_1 (lt_at hk) ?_)
               | (refine ⟨_, row_at hk, ?_⟩)
               | (refine cond_0 b1 ?_)
               | (refine cond_1 b0 ?_)
               | (refine Or.inl ⟨_, n1, ?_⟩)
               | (refine ⟨_, n1, ?_⟩)
               | (refine Or.inl ⟨_, hu, ?_⟩)
               | (refine ⟨_, hu, ?_⟩)
               | (refine ⟨ap, ?_⟩)
               | (refine cond_f ?_ ?_)
               | (refine ⟨_, ⟨by decide, rfl⟩, ?_⟩)
               | (refine cond_i (fun h => ?_) (fun h => ?_)))
      all_goals (conv => whnf)
      refine ⟨(_, _), _, rfl, ⟨?_, ?_⟩, up1 hk (by omega)⟩
      · rw [hsn]; simp
      · rw [hsn]; exact own_snoc rfl
    · have b0 : (o.calls[k].state == 1) = false := beq_eq_false_iff_ne.2 h
      have b1 : (!(o.calls[k].state == 1)) = true := by rw [b0]; rfl
      rw [if_neg h] at hsn
      refine awp_go ?_
      repeat' (conv => whnf
               first
               | (refine And.intro (by kernel_rfl) ?_)
               | (refine And.intro ⟨by kernel_rfl, by kernel_rfl⟩ ?_)
               | (refine cond_1 (lt_at hk) ?_)
               | (refine ⟨_, row_at hk, ?_⟩)
               | (refine cond_1 b1 ?_)
               | (refine cond_0 b0 ?_)
               | (refine cond_f ?_ ?_)
               | (refine ⟨_, ⟨by decide, rfl⟩, ?_⟩)
               | (refine cond_i (fun h => ?_) (fun h => ?_)))
      all_goals (conv => whnf)
      exact ⟨(_, _), _, rfl, ⟨by rw [hsn], by rw [hsn]⟩, up1 hk (by omega)⟩
  · obtain ⟨n, xs⟩ := b
    obtain ⟨rfl, rfl⟩ : n = _ ∧ xs = _ := hI
    rw [List.take_length]
    refine awp_go ?_
    repeat' (conv => whnf
             first
             | (refine And.intro (by kernel_rfl) ?_)
             | (refine And.intro ⟨by kernel_rfl, by kernel_rfl⟩ ?_)
             | (refine cond_0 lt_end ?_)
             | (refine ⟨own_le1, ?_⟩)
             | (rw [own_all1])
             | (refine cond_f ?_ ?_)
             | (refine ⟨_, ⟨by decide, rfl⟩, ?_⟩)
             | (refine cond_i (fun h => ?_) (fun h => ?_)))
    all_goals (conv => whnf)
    all_goals rfl
end Go.Proofs.YtfacmphjplablaaDoor.Cn
