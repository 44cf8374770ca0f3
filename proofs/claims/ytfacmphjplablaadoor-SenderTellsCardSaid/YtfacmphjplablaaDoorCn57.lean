
/- The law of what a sender tells. No condition. -/
import Derived.Test.YtfacmphjplablaaDoorCn56
namespace Go.Proofs.YtfacmphjplablaaDoor.Cn
open Go Go.Proofs Go.Proofs.YtfacmphjplablaaDoor.Av Go.Proofs.YtfacmphjplablaaDoor.Sp
set_option linter.unusedVariables false
set_option linter.unusedSimpArgs false
set_option linter.unusedSectionVars false
set_option maxRecDepth 100000
attribute [local irreducible] Fv Fp

theorem pk_same (p : Packet) : (p.kind == p.kind && (p.from == p.from && (p.to == p.to && (((p.key.id.node == p.key.id.node && (p.key.id.inc == p.key.id.inc && (p.key.id.seq == p.key.id.seq && true))) && (p.key.att == p.key.att && true)) && (p.hop == p.hop && (p.stamp == p.stamp && (strEq p.timeout p.timeout && (p.until == p.until && (p.program == p.program && ((p.root.node == p.root.node && (p.root.inc == p.root.inc && (p.root.seq == p.root.seq && true))) && (((p.parent.id.node == p.parent.id.node && (p.parent.id.inc == p.parent.id.inc && (p.parent.id.seq == p.parent.id.seq && true))) && (p.parent.att == p.parent.att && true)) && (p.code == p.code && (p.value == p.value && (p.more == p.more && (p.delay == p.delay && true))))))))))))))) = true := by simp [strEq_self]
theorem pk_differ (p : Packet) : (!((p.kind == p.kind && (p.from == p.from && (p.to == p.to && (((p.key.id.node == p.key.id.node && (p.key.id.inc == p.key.id.inc && (p.key.id.seq == p.key.id.seq && true))) && (p.key.att == p.key.att && true)) && (p.hop == p.hop && (p.stamp == p.stamp && (strEq p.timeout p.timeout && (p.until == p.until && (p.program == p.program && ((p.root.node == p.root.node && (p.root.inc == p.root.inc && (p.root.seq == p.root.seq && true))) && (((p.parent.id.node == p.parent.id.node && (p.parent.id.inc == p.parent.id.inc && (p.parent.id.seq == p.parent.id.seq && true))) && (p.parent.att == p.parent.att && true)) && (p.code == p.code && (p.value == p.value && (p.more == p.more && (p.delay == p.delay && true))))))))))))))))) = false := by rw [pk_same]; rfl
theorem ref26_Same (l : List Packet) (hs : l.length ≤ 1000) : Fv Tryd.prog 25 [.sl (l.map Packet.g), .sl (l.map Packet.g)] (.bool true) := by
  have e0 : (((l.map Packet.g).length : Int) == ((l.map Packet.g).length : Int)) = true := by simp
  have e1 : (!(((l.map Packet.g).length : Int) == ((l.map Packet.g).length : Int))) = false := by simp
  refine Fv.of_awp Tryd.func25 rfl (by kernel_rfl) rfl (Nat.le_of_ble_eq_true rfl) ?_
  repeat' (conv => whnf
           first
           | (refine And.intro (by kernel_rfl) ?_)
           | (refine And.intro ⟨by kernel_rfl, by kernel_rfl⟩ ?_)
           | (refine cond_0 e1 ?_)
           | (refine cond_1 e0 ?_)
           | (refine cond_f ?_ ?_)
           | (refine ⟨_, ⟨by decide, rfl⟩, ?_⟩)
           | (refine cond_i (fun h => ?_) (fun h => ?_)))
  all_goals (conv => whnf)
  refine Has.each [0, 1, 5] [] l.length (fun k (_ : Unit) => True) (fun _ i =>
    St.of 26 [(0, .sl (l.map Packet.g)), (1, .sl (l.map Packet.g)), (5, .int .i64 i)] [] []) ⟨(), _, rfl, trivial, rfl⟩ (fun k _ hk hI => ?_) (fun _ hI => ?_)
  · have hr := row_at (R := Packet.g) hk
    obtain ⟨p, hp⟩ : ∃ p, l[k] = p := ⟨_, rfl⟩
    rw [hp] at hr
    have p0 := pk_differ p
    have p1 := pk_same p
    refine awp_go ?_
    repeat' (conv => whnf
             first
             | (refine And.intro (by kernel_rfl) ?_)
             | (refine And.intro ⟨by kernel_rfl, by kernel_rfl⟩ ?_)
             | (refine cond_1 (lt_at hk) ?_)
             | (refine ⟨_, hr, ?_⟩)
             | (refine cond_0 p0 ?_)
             | (refine cond_1 p1 ?_)
             | (refine cond_f ?_ ?_)
             | (refine ⟨_, ⟨by decide, rfl⟩, ?_⟩)
             | (refine cond_i (fun h => ?_) (fun h => ?_)))
    all_goals (conv => whnf)
    exact ⟨(), _, rfl, trivial, up1 hk (by omega)⟩
  · refine awp_go ?_
    repeat' (conv => whnf
             first
             | (refine And.intro (by kernel_rfl) ?_)
             | (refine And.intro ⟨by kernel_rfl, by kernel_rfl⟩ ?_)
             | (refine cond_0 lt_end ?_)
             | (refine cond_f ?_ ?_)
             | (refine ⟨_, ⟨by decide, rfl⟩, ?_⟩)
             | (refine cond_i (fun h => ?_) (fun h => ?_)))
    all_goals (conv => whnf)
    all_goals rfl
theorem tells_far (me : Int) (o : Owner) (now n v d : Int) (h : o.calls.length > 30) : Fv Tryd.prog 5 [.int .i64 me, .agg o.g, .int .i64 now, .int .i64 n, .int .i64 v, .int .i64 d] (.bool true) := by
  have aw := law26_awake
  have b1 : decide (((o.calls.map Call.g).length : Int) > 30) = true := decide_eq_true (by rw [List.length_map]; omega)
  refine Fv.of_awp Tryd.func5 rfl (by kernel_rfl) rfl (Nat.le_of_ble_eq_true rfl) ?_
  repeat' (conv => whnf
           first
           | (refine And.intro (by kernel_rfl) ?_)
           | (refine And.intro ⟨by kernel_rfl, by kernel_rfl⟩ ?_)
           | (refine cond_1 b1 ?_)
           | (refine Or.inl ⟨_, aw, ?_⟩)
           | (refine ⟨_, aw, ?_⟩)
           | (refine cond_f ?_ ?_)
           | (refine ⟨_, ⟨by decide, rfl⟩, ?_⟩)
           | (refine cond_i (fun h => ?_) (fun h => ?_)))
  all_goals (conv => whnf)
  all_goals rfl
set_option maxHeartbeats 4000000 in
theorem tells_of (me : Int) (o : Owner) (now n v d : Int) (h : ¬ o.calls.length > 30) (p q r : Packet) (a b : Int) (k : Bool) (A B : List Packet) (hA : A.length ≤ 1000) (hB : B.length ≤ 1000)
    (n1 : Fv Tryd.prog 18 [.int .i64 me, .agg o.g, .int .i64 n, .int .i64 v] (.agg p.g)) (r1 : Fv Tryd.prog 19 [.int .i64 me, .agg o.g, .int .i64 n, .int .i64 v] (.agg p.g))
    (n2 : Fv Tryd.prog 20 [.int .i64 me, .agg o.g] (.agg q.g)) (r2 : Fv Tryd.prog 21 [.int .i64 me, .agg o.g] (.agg q.g))
    (n3 : Fv Tryd.prog 22 [.int .i64 me, .agg o.g, .int .i64 d] (.agg r.g)) (r3 : Fv Tryd.prog 23 [.int .i64 me, .agg o.g, .int .i64 d] (.agg r.g))
    (n4 : Fv Tryd.prog 15 [.agg o.g, .int .i64 now] (.tup [.int .i64 a, .int .i64 b, .bool k])) (r4 : Fv Tryd.prog 24 [.agg o.g, .int .i64 now] (.tup [.int .i64 a, .int .i64 b, .bool k]))
    (n5 : Fv Tryd.prog 26 [.int .i64 me, .agg o.g] (.sl (A.map Packet.g))) (r5 : Fv Tryd.prog 27 [.int .i64 3, .int .i64 me, .agg o.g] (.sl (A.map Packet.g)))
    (n6 : Fv Tryd.prog 28 [.int .i64 me, .agg o.g] (.sl (B.map Packet.g))) (r6 : Fv Tryd.prog 27 [.int .i64 4, .int .i64 me, .agg o.g] (.sl (B.map Packet.g))) :
    Fv Tryd.prog 5 [.int .i64 me, .agg o.g, .int .i64 now, .int .i64 n, .int .i64 v, .int .i64 d] (.bool true) := by
  have aw := law26_awake
  have b1 : decide (((o.calls.map Call.g).length : Int) > 30) = false := decide_eq_false (by rw [List.length_map]; omega)
  have m1 := law23_Mine o (by omega)
  have s1 := ref26_Same A hA
  have s2 := ref26_Same B hB
  have p0 := pk_differ p
  have p1 := pk_same p
  have q0 := pk_differ q
  have q1 := pk_same q
  have d0 := pk_differ r
  have d1 := pk_same r
  have e1 : (a == a) = true := by simp
  have e2 : (b == b) = true := by simp
  have e3 : (k == k) = true := by simp
  refine Fv.of_awp Tryd.func5 rfl (by kernel_rfl) rfl (Nat.le_of_ble_eq_true rfl) ?_
  repeat' (conv => whnf
           first
           | (refine And.intro (by kernel_rfl) ?_)
           | (refine And.intro ⟨by kernel_rfl, by kernel_rfl⟩ ?_)
           | (refine cond_0 b1 ?_)
           | (refine Or.inl ⟨_, m1, ?_⟩)
           | (refine ⟨_, m1, ?_⟩)
           | (refine Or.inl ⟨_, n1, ?_⟩)
           | (refine ⟨_, n1, ?_⟩)
           | (refine Or.inl ⟨_, r1, ?_⟩)
           | (refine ⟨_, r1, ?_⟩)
           | (refine Or.inl ⟨_, n2, ?_⟩)
           | (refine ⟨_, n2, ?_⟩)
           | (refine Or.inl ⟨_, r2, ?_⟩)
           | (refine ⟨_, r2, ?_⟩)
           | (refine Or.inl ⟨_, n3, ?_⟩)
           | (refine ⟨_, n3, ?_⟩)
           | (refine Or.inl ⟨_, r3, ?_⟩)
           | (refine ⟨_, r3, ?_⟩)
           | (refine Or.inl ⟨_, n4, ?_⟩)
           | (refine ⟨_, n4, ?_⟩)
           | (refine Or.inl ⟨_, r4, ?_⟩)
           | (refine ⟨_, r4, ?_⟩)
           | (refine Or.inl ⟨_, n5, ?_⟩)
           | (refine ⟨_, n5, ?_⟩)
           | (refine Or.inl ⟨_, r5, ?_⟩)
           | (refine ⟨_, r5, ?_⟩)
           | (refine Or.inl ⟨_, n6, ?_⟩)
           | (refine ⟨_, n6, ?_⟩)
           | (refine Or.inl ⟨_, r6, ?_⟩)
           | (refine ⟨_, r6, ?_⟩)
           | (refine Or.inl ⟨_, s1, ?_⟩)
           | (refine ⟨_, s1, ?_⟩)
           | (refine Or.inl ⟨_, s2, ?_⟩)
           | (refine ⟨_, s2, ?_⟩)
           | (refine cond_0 p0 ?_)
           | (refine cond_0 q0 ?_)
           | (refine cond_0 d0 ?_)
           | (refine cond_1 p1 ?_)
           | (refine cond_1 q1 ?_)
           | (refine cond_1 d1 ?_)
           | (refine cond_1 e1 ?_)
           | (refine cond_1 e2 ?_)
           | (refine cond_1 e3 ?_)
           | (refine Or.inl ⟨_, aw, ?_⟩)
           | (refine ⟨_, aw, ?_⟩)
           | (refine cond_f ?_ ?_)
           | (refine ⟨_, ⟨by decide, rfl⟩, ?_⟩)
           | (refine cond_i (fun h => ?_) (fun h => ?_)))
  all_goals (conv => whnf)
  all_goals rfl
theorem law26_SenderTells (me : Int) (o : Owner) (now n v d : Int) : Fv Tryd.prog 5 [.int .i64 me, .agg o.g, .int .i64 now, .int .i64 n, .int .i64 v, .int .i64 d] (.bool true) := by
  by_cases h : o.calls.length > 30
  · exact tells_far me o now n v d h
  have h1 := waitL_len 3 me 0 o.calls
  have h2 := waitL_len 4 me (clamp o.until) o.calls
  have h4 := sender_Settled o now (by omega)
  exact tells_of me o now n v d h _ _ _ _ _ _ _ _ (by omega) (by omega) (sender_Reply me o n v) (ref26_Reply me o n v) (sender_More me o) (ref26_More me o) (sender_Refuse me o d) (ref26_Refuse me o d) h4.1 h4.2
    (sender_Cancels me o (by omega)) (ref26_Waiting3 me o (by omega)) (sender_Keeps me _ o (by omega) (ticks_Clamp _)) (ref26_Waiting4 me _ o (by omega) (ref01_Clamp _))
end Go.Proofs.YtfacmphjplablaaDoor.Cn
