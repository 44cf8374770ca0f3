
/- Contracts of an owner's copies, of what is found and put in it. No condition but lengths. -/
import Derived.Test.YtfacmphjplablaaDoorCn8
namespace Go.Proofs.YtfacmphjplablaaDoor.Cn
open Go Go.Proofs Go.Proofs.YtfacmphjplablaaDoor.Av Go.Proofs.YtfacmphjplablaaDoor.Sp
set_option linter.unusedVariables false
set_option linter.unusedSimpArgs false
set_option maxRecDepth 100000
attribute [local irreducible] Fv Fp

theorem slices_Clone (l : List Sp.Call) (hs : l.length ≤ 31) : Fp Tryd.prog 109 [.sl (l.map Call.g)] [] [] (.own 0 0 l.length, [], [some (l.map Call.g)]) := by
  cases l with
  | nil =>
    refine Fp.nilCases (Fp.none0 (g0 := .nils) (fun _ _ _ => nils_room) ?_) ?_
    · refine Fp.of_awp Tryd.func109 rfl (by kernel_rfl) (Nat.le_of_ble_eq_true rfl) ?_
      repeat' (conv => whnf
               first
               | (refine And.intro (by kernel_rfl) ?_)
               | (refine And.intro ⟨by kernel_rfl, by kernel_rfl⟩ ?_)
               | (refine cond_f ?_ ?_)
               | (refine ⟨_, ⟨by decide, rfl⟩, ?_⟩)
               | (refine cond_i (fun h => ?_) (fun h => ?_)))
      all_goals (conv => whnf)
      all_goals rfl
    · refine Fp.of_awp Tryd.func109 rfl (by kernel_rfl) (Nat.le_of_ble_eq_true rfl) ?_
      repeat' (conv => whnf
               first
               | (refine And.intro (by kernel_rfl) ?_)
               | (refine And.intro ⟨by kernel_rfl, by kernel_rfl⟩ ?_)
               | (refine ⟨fits 104 (by kernel_rfl) (by simp), ?_⟩)
               | (refine cond_f ?_ ?_)
               | (refine ⟨_, ⟨by decide, rfl⟩, ?_⟩)
               | (refine cond_i (fun h => ?_) (fun h => ?_)))
      all_goals (conv => whnf)
      all_goals rfl
  | cons c l =>
    have h1 : okRows (Tryd.prog.cellsOf 35) ((c :: l).map Call.g) = true := ok_map 13 (by kernel_rfl) (fun _ => rfl) (fun _ => rfl)
    refine Fp.of_awp Tryd.func109 rfl (by kernel_rfl) (Nat.le_of_ble_eq_true rfl) ?_
    have h2 : (2 * ((c :: l).map Call.g).length + 1024) * 104 ≤ 281474976710656 := by rw [List.length_map]; omega
    repeat' (conv => whnf
             first
             | (refine And.intro (by kernel_rfl) ?_)
             | (refine And.intro ⟨by kernel_rfl, by kernel_rfl⟩ ?_)
             | (refine cond_1 h1 ?_)
             | (refine ⟨fits 104 (by kernel_rfl) h2, ?_⟩)
             | (refine cond_f ?_ ?_)
             | (refine ⟨_, ⟨by decide, rfl⟩, ?_⟩)
             | (refine cond_i (fun h => ?_) (fun h => ?_)))
    all_goals (conv => whnf)
    all_goals (simp only [List.length_map]; rfl)
theorem owner_Clone (o : Owner) (hs : o.calls.length ≤ 31) : Fp Tryd.prog 71 [.agg o.g] [] [] (.agg (o.gw (.own 0 0 o.calls.length)), [], [some (o.calls.map Call.g)]) := by
  refine Fp.of_awp Tryd.func71 rfl (by kernel_rfl) (Nat.le_of_ble_eq_true rfl) ?_
  repeat' (conv => whnf
           first
           | (refine And.intro (by kernel_rfl) ?_)
           | (refine And.intro ⟨by kernel_rfl, by kernel_rfl⟩ ?_)
           | (refine Or.inr ⟨_, slices_Clone o.calls hs, ?_⟩)
           | (refine cond_f ?_ ?_)
           | (refine ⟨_, ⟨by decide, rfl⟩, ?_⟩)
           | (refine cond_i (fun h => ?_) (fun h => ?_)))
  all_goals (conv => whnf)
  all_goals rfl
theorem owner_Find1 (c : Sp.Call) (d : Sp.Id) : Fp Tryd.prog 111 [.agg c.g, .ptr 0 0] [d.g] [] (.bool (decide (c.id = d)), [some d.g], []) := by
  refine Fp.of_awp Tryd.func111 rfl (by kernel_rfl) (Nat.le_of_ble_eq_true rfl) ?_
  repeat' (conv => whnf
           first
           | (refine And.intro (by kernel_rfl) ?_)
           | (refine And.intro ⟨by kernel_rfl, by kernel_rfl⟩ ?_)
           | (refine cond_f ?_ ?_)
           | (refine ⟨_, ⟨by decide, rfl⟩, ?_⟩)
           | (refine cond_i (fun h => ?_) (fun h => ?_)))
  all_goals (conv => whnf)
  rw [id_eqB c.id d]
  rfl
theorem findI_hit {l : List Sp.Call} {d : Sp.Id} {k : Nat} (hk : k < l.length) (hI : findI (l.take k) d = -1) (h : l[k].id = d) : findI l d = k := by
  unfold findI at *
  have e : l.findIdx? (fun c => c.id == d) = some k := by
    rw [List.findIdx?_eq_some_iff_getElem]
    refine ⟨hk, by simp [h], fun j hj => ?_⟩
    cases hf : (l.take k).findIdx? (fun c => c.id == d) with
    | some i => rw [hf] at hI; simp at hI
    | none =>
      rw [List.findIdx?_eq_none_iff] at hf
      have := hf (l[j]) (List.mem_take_iff_getElem.2 ⟨j, by omega, rfl⟩)
      simpa using this
  rw [e]
theorem findI_step {l : List Sp.Call} {d : Sp.Id} {k : Nat} (hk : k < l.length) (hI : findI (l.take k) d = -1) (h : ¬ l[k].id = d) : findI (l.take (k + 1)) d = -1 := by
  unfold findI at *
  cases hf : (l.take k).findIdx? (fun c => c.id == d) with
  | some i => rw [hf] at hI; simp at hI
  | none =>
    have e : (l.take (k + 1)).findIdx? (fun c => c.id == d) = none := by
      rw [List.findIdx?_eq_none_iff] at hf ⊢
      intro x hx
      rw [take_at hk, List.mem_append] at hx
      rcases hx with hx | hx
      · exact hf x hx
      · simp at hx; subst hx; simpa using h
    rw [e]
set_option maxHeartbeats 4000000 in
theorem slices_IndexFunc (l : List Sp.Call) (d : Sp.Id) (hs : l.length < 4611686018427387904) : Fp Tryd.prog 110 [.sl (l.map Call.g), .fn 111 [.ptr 0 0]] [d.g] [] (.int .i64 (findI l d), [some d.g], []) := by
  refine Fp.of_awp Tryd.func110 rfl (by kernel_rfl) (Nat.le_of_ble_eq_true rfl) ?_
  repeat' (conv => whnf
           first
           | (refine And.intro (by kernel_rfl) ?_)
           | (refine And.intro ⟨by kernel_rfl, by kernel_rfl⟩ ?_)
           | (refine cond_f ?_ ?_)
           | (refine ⟨_, ⟨by decide, rfl⟩, ?_⟩)
           | (refine cond_i (fun h => ?_) (fun h => ?_)))
  all_goals (conv => whnf)
  refine Has.each [0, 1, 7, 8] [] l.length (fun k (_ : Unit) => findI (l.take k) d = -1) (fun _ i =>
    St.ofP 19 1 0 [(0, .sl (l.map Call.g)), (1, .fn 111 [.ptr 27 0]), (7, .int .i64 ((l.map Call.g).length : Nat)), (8, .int .i64 i)] [(27, d.g)] []) ⟨(), _, rfl, rfl, rfl⟩ (fun k _ hk hI => ?_) (fun _ hI => ?_)
  · have hF := owner_Find1 l[k] d
    generalize hb : decide (l[k].id = d) = b at hF
    refine awp_go ?_
    repeat' (conv => whnf
             first
             | (refine And.intro (by kernel_rfl) ?_)
             | (refine And.intro ⟨by kernel_rfl, by kernel_rfl⟩ ?_)
             | (refine cond_1 (lt_at hk) ?_)
             | (refine ⟨_, row_at hk, ?_⟩)
             | (refine Or.inr ⟨_, hF, ?_⟩)
             | (refine cond_f ?_ ?_)
             | (refine ⟨_, ⟨by decide, rfl⟩, ?_⟩)
             | (refine cond_i (fun h => ?_) (fun h => ?_)))
    all_goals (conv => whnf)
    · rw [findI_hit hk hI (of_decide_eq_true (hb.trans h))]; rfl
    · exact ⟨(), _, rfl, findI_step hk hI (of_decide_eq_false (hb.trans h)), up1 hk hs⟩
  · rw [List.take_length] at hI
    rw [hI]
    refine awp_go ?_
    repeat' (conv => whnf
             first
             | (refine And.intro (by kernel_rfl) ?_)
             | (refine And.intro ⟨by kernel_rfl, by kernel_rfl⟩ ?_)
             | (refine cond_0 lt_end ?_)
             | (refine cond_f ?_ ?_)
             | (refine ⟨_, ⟨by decide, rfl⟩, ?_⟩)
             | (refine cond_i (fun h => ?_) (fun h => ?_)))
    all_goals (conv => whnf)
    all_goals rfl
theorem owner_Find (o : Owner) (d : Sp.Id) (hs : o.calls.length < 4611686018427387904) : Fv Tryd.prog 72 [.agg o.g, .agg d.g] (.int .i64 (findI o.calls d)) := by
  refine Fv.of_awp Tryd.func72 rfl (by kernel_rfl) rfl (Nat.le_of_ble_eq_true rfl) ?_
  repeat' (conv => whnf
           first
           | (refine And.intro (by kernel_rfl) ?_)
           | (refine And.intro ⟨by kernel_rfl, by kernel_rfl⟩ ?_)
           | (refine Or.inr ⟨_, slices_IndexFunc o.calls d hs, ?_⟩)
           | (refine cond_f ?_ ?_)
           | (refine ⟨_, ⟨by decide, rfl⟩, ?_⟩)
           | (refine cond_i (fun h => ?_) (fun h => ?_)))
  all_goals (conv => whnf)
  all_goals rfl
end Go.Proofs.YtfacmphjplablaaDoor.Cn
