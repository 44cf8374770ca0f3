/- The functions that CodeJoins reaches, as Lean functions, and what the Go code comes to: the same answers. No condition but that they answer. -/
import Derived.Test.YtfaoeafmgigpcaaFCodeJoinsx0
namespace Go.Proofs.Ytfaoeafmgigpcaa.FCodeJoins
open Go.RowKit Go.Proofs.YtfaoeafmgigpcaaW.PrintWords Go.Proofs.YtfaoeafmgigpcaaW.PrintLast Go.Proofs.YtfaoeafmgigpcaaW.PrintMore
attribute [local go_sem] max2_int min2_int max_two min_two max_three min_three max_four min_four   -- for this text's walks alone
set_option linter.unusedVariables false
set_option linter.unusedSimpArgs false

/-! ### code_names: function 61 -/
def code_nmL : List ByteArray := [⟨#[79, 75]⟩, ⟨#[67, 65, 78, 67, 69, 76, 76, 69, 68]⟩, ⟨#[85, 78, 75, 78, 79, 87, 78]⟩, ⟨#[73, 78, 86, 65, 76, 73, 68, 95, 65, 82, 71, 85, 77, 69, 78, 84]⟩,
  ⟨#[68, 69, 65, 68, 76, 73, 78, 69, 95, 69, 88, 67, 69, 69, 68, 69, 68]⟩, ⟨#[78, 79, 84, 95, 70, 79, 85, 78, 68]⟩, ⟨#[65, 76, 82, 69, 65, 68, 89, 95, 69, 88, 73, 83, 84, 83]⟩,
  ⟨#[80, 69, 82, 77, 73, 83, 83, 73, 79, 78, 95, 68, 69, 78, 73, 69, 68]⟩, ⟨#[82, 69, 83, 79, 85, 82, 67, 69, 95, 69, 88, 72, 65, 85, 83, 84, 69, 68]⟩,
  ⟨#[70, 65, 73, 76, 69, 68, 95, 80, 82, 69, 67, 79, 78, 68, 73, 84, 73, 79, 78]⟩, ⟨#[65, 66, 79, 82, 84, 69, 68]⟩, ⟨#[79, 85, 84, 95, 79, 70, 95, 82, 65, 78, 71, 69]⟩,
  ⟨#[85, 78, 73, 77, 80, 76, 69, 77, 69, 78, 84, 69, 68]⟩, ⟨#[73, 78, 84, 69, 82, 78, 65, 76]⟩, ⟨#[85, 78, 65, 86, 65, 73, 76, 65, 66, 76, 69]⟩, ⟨#[68, 65, 84, 65, 95, 76, 79, 83, 83]⟩,
  ⟨#[85, 78, 65, 85, 84, 72, 69, 78, 84, 73, 67, 65, 84, 69, 68]⟩]
def code_nm (i : Int) : ByteArray := code_nmL.getD i.toNat ByteArray.empty
def code_nmV : Value := .agg (code_nmL.map Value.string).toArray
set_option maxRecDepth 100000 in
set_option maxHeartbeats 1000000 in
theorem code_names.calls (w : World) : Calls Try.prog 61 #[] w fun e w' => e = .returned code_nmV ∧ Below w.heap.size w w' := by
  go_enter Try.func61, Try.ntmps61
  go_wp2
  exact bodyPost_ret (v := code_nmV) (by simp [results, Try.results61, go_sem]; rfl) rfl ⟨rfl, (Below.refl _ _).alloc (Nat.le_refl _) _⟩
theorem code_nm_cases {t : Int} (h0 : 0 ≤ t) (h1 : t < 17) : t = 0 ∨ t = 1 ∨ t = 2 ∨ t = 3 ∨ t = 4 ∨ t = 5 ∨ t = 6 ∨ t = 7 ∨ t = 8 ∨ t = 9 ∨ t = 10 ∨ t = 11 ∨ t = 12 ∨ t = 13 ∨ t = 14 ∨ t = 15 ∨ t = 16 := by omega
theorem code_nm_index {t : Int} (h0 : 0 ≤ t) (h1 : t < 17) (w : World) : (Instr.index 59 code_nmV (.int .i64 t)).run Try.prog w = .ok (.string (code_nm t)) w := by
  rcases code_nm_cases h0 h1 with rfl | rfl | rfl | rfl | rfl | rfl | rfl | rfl | rfl | rfl | rfl | rfl | rfl | rfl | rfl | rfl | rfl <;> kernel_rfl

/-! ### code_Right: function 43 -/
def code_Right.f (a0 : Int) : Option (Bool) := if a0 ≥ 0 then (some (decide (a0 < 17))) else (some false)
set_option maxRecDepth 100000 in
set_option maxHeartbeats 1000000 in
theorem code_Right.calls (a0 : Int) (r : Bool) (w : World) (h : code_Right.f a0 = some r) : Calls Try.prog 43 #[.int .i64 a0] w fun e w' => e = .returned (.bool r) ∧ Below w.heap.size w w' := by
  unfold code_Right.f at h
  by_cases c : 0 ≤ a0
  · rw [if_pos c] at h
    obtain rfl := Option.some.inj h
    clear h
    go_enter Try.func43, Try.ntmps43
    go_wp2_with (go_at_call 61; refine (code_names.calls _).mono ?_; rintro e w1 ⟨rfl, hb⟩)
    go_ret
    exact ⟨rfl, hb⟩
  · rw [if_neg c] at h
    obtain rfl := Option.some.inj h
    clear h
    go_enter Try.func43, Try.ntmps43
    go_wp2
    go_ret
    exact ⟨rfl, Below.refl _ _⟩

/-! ### code_Clean: function 38 -/
def code_Clean.f (a0 : Int) : Option (Int) := (code_Right.f a0).bind fun t101 => (if t101 = true then (some a0) else (some 2))
set_option maxHeartbeats 40000000 in
set_option maxRecDepth 100000 in
theorem code_Clean.calls (a0 : Int) (r : Int) (w : World) (h : code_Clean.f a0 = some r) :
    Calls Try.prog 38 #[.int .i64 a0] w fun e w' => e = .returned (.int .i64 r) ∧ Below w.heap.size w w' := by
  have HB := Aside0.mk (Below.refl w.heap.size w)
  have H : ((code_Right.f a0).bind fun t101 => (if t101 = true then (some a0) else (some 2))) = some r := h
  clear h
  replace H := Option.bind_eq_some_iff.mp H
  obtain ⟨t101, A20, H⟩ := H
  replace H : (if t101 = true then (some a0) else (some 2)) = some r := H
  have A2 := Aside0.mk A20
  clear A20
  by_cases c3 : t101 = true
  · subst c3
    have H1 : (some a0) = some r := by rw [if_pos rfl] at H; exact H
    clear H
    have H := H1
    clear H1
    obtain rfl := Option.some.inj H
    go_enter Try.func38, Try.ntmps38
    go_wp2_with (first | ((with_reducible refine gate_callee (f := 43) rfl ?_); refine goesL_ (some 4) rfl rfl Try.func43 (by kernel_rfl) rfl #[.int .i64 a0] rfl (by (try simp only [List.map_toArray, List.map_cons, List.map_nil]); first | done | rfl | (simp only [List.length_drop, List.length_take]; rfl)) ?_; (with_reducible refine (code_Right.calls a0 true _ A2.out).mono ?_); rintro e w4 ⟨rfl, hb⟩; refine ⟨_, rfl, ?_⟩; have n0_ := Aside0.mk (below_step (by repeat (first | (with_reducible first | exact HB.out | apply below_alloc | apply pw_below_drewN | apply below_drew1) | exact HB.out)) hb); clear HB; have HB := n0_; clear n0_; (try clear hb); (try clear hb2); (try clear hk); (try clear hi)))
    go_ret
    exact ⟨by first | rfl | (simp [errW_none, errW_some] <;> rfl) | (simp [*, errW_none, errW_some] <;> rfl), by repeat (first | (with_reducible first | exact HB.out | apply below_alloc | apply pw_below_drewN | apply below_drew1) | exact HB.out)⟩
  · replace c3 := Bool.eq_false_iff.mpr c3
    subst c3
    have H1 : (some 2) = some r := by rw [if_neg (show ¬ (false = true) by decide)] at H; exact H
    clear H
    have H := H1
    clear H1
    obtain rfl := Option.some.inj H
    go_enter Try.func38, Try.ntmps38
    go_wp2_with (first | ((with_reducible refine gate_callee (f := 43) rfl ?_); refine goesL_ (some 4) rfl rfl Try.func43 (by kernel_rfl) rfl #[.int .i64 a0] rfl (by (try simp only [List.map_toArray, List.map_cons, List.map_nil]); first | done | rfl | (simp only [List.length_drop, List.length_take]; rfl)) ?_; (with_reducible refine (code_Right.calls a0 false _ A2.out).mono ?_); rintro e w5 ⟨rfl, hb⟩; refine ⟨_, rfl, ?_⟩; have n0_ := Aside0.mk (below_step (by repeat (first | (with_reducible first | exact HB.out | apply below_alloc | apply pw_below_drewN | apply below_drew1) | exact HB.out)) hb); clear HB; have HB := n0_; clear n0_; (try clear hb); (try clear hb2); (try clear hk); (try clear hi)))
    go_ret
    exact ⟨by first | rfl | (simp [errW_none, errW_some] <;> rfl) | (simp [*, errW_none, errW_some] <;> rfl), by repeat (first | (with_reducible first | exact HB.out | apply below_alloc | apply pw_below_drewN | apply below_drew1) | exact HB.out)⟩

/-! ### code_rank: function 60 -/
def code_rank.f (a0 : Int) : Option (Int) := (code_Clean.f a0).bind fun t102 => (if t102 = 0 then (some 0) else (if t102 = 14 then (some 1) else (if t102 = 8 then (some 2) else (if t102 = 4 then (some 100) else (if t102 = 1 then (some 101) else (some (wrap64 (10 + t102))))))))
set_option maxHeartbeats 40000000 in
set_option maxRecDepth 100000 in
theorem code_rank.calls (a0 : Int) (r : Int) (w : World) (h : code_rank.f a0 = some r) :
    Calls Try.prog 60 #[.int .i64 a0] w fun e w' => e = .returned (.int .i64 r) ∧ Below w.heap.size w w' := by
  have HB := Aside0.mk (Below.refl w.heap.size w)
  have H : ((code_Clean.f a0).bind fun t102 => (if t102 = 0 then (some 0) else (if t102 = 14 then (some 1) else (if t102 = 8 then (some 2) else (if t102 = 4 then (some 100) else (if t102 = 1 then (some 101) else (some (wrap64 (10 + t102))))))))) = some r := h
  clear h
  replace H := Option.bind_eq_some_iff.mp H
  obtain ⟨t102, A20, H⟩ := H
  replace H : (if t102 = 0 then (some 0) else (if t102 = 14 then (some 1) else (if t102 = 8 then (some 2) else (if t102 = 4 then (some 100) else (if t102 = 1 then (some 101) else (some (wrap64 (10 + t102)))))))) = some r := H
  have A2 := Aside0.mk A20
  clear A20
  by_cases c3 : t102 = 0
  · rw [if_pos c3] at H
    have c3b0 : (t102 == 0) = true := beq_iff_eq.mpr c3
    have c3b1 : (t102 != 0) = false := bne_eq_false_iff_eq.mpr c3
    clear c3
    obtain rfl := Option.some.inj H
    go_enter Try.func60, Try.ntmps60
    go_wp2_with (first | ((with_reducible refine gate_callee (f := 38) rfl ?_); refine goesL_ (some 4) rfl rfl Try.func38 (by kernel_rfl) rfl #[.int .i64 a0] rfl (by (try simp only [List.map_toArray, List.map_cons, List.map_nil]); first | done | rfl | (simp only [List.length_drop, List.length_take]; rfl)) ?_; (with_reducible refine (code_Clean.calls a0 t102 _ A2.out).mono ?_); rintro e w4 ⟨rfl, hb⟩; refine ⟨_, rfl, ?_⟩; have n0_ := Aside0.mk (below_step (by repeat (first | (with_reducible first | exact HB.out | apply below_alloc | apply pw_below_drewN | apply below_drew1) | exact HB.out)) hb); clear HB; have HB := n0_; clear n0_; (try clear hb); (try clear hb2); (try clear hk); (try clear hi)))
    go_ret
    exact ⟨by first | rfl | (simp [errW_none, errW_some] <;> rfl) | (simp [*, errW_none, errW_some] <;> rfl), by repeat (first | (with_reducible first | exact HB.out | apply below_alloc | apply pw_below_drewN | apply below_drew1) | exact HB.out)⟩
  · rw [if_neg c3] at H
    have c3b0 : (t102 == 0) = false := beq_eq_false_iff_ne.mpr c3
    have c3b1 : (t102 != 0) = true := bne_iff_ne.mpr c3
    by_cases c5 : t102 = 14
    · rw [if_pos c5] at H
      have c5b0 : (t102 == 14) = true := beq_iff_eq.mpr c5
      have c5b1 : (t102 != 14) = false := bne_eq_false_iff_eq.mpr c5
      clear c5
      obtain rfl := Option.some.inj H
      go_enter Try.func60, Try.ntmps60
      go_wp2_with (first | ((with_reducible refine gate_callee (f := 38) rfl ?_); refine goesL_ (some 4) rfl rfl Try.func38 (by kernel_rfl) rfl #[.int .i64 a0] rfl (by (try simp only [List.map_toArray, List.map_cons, List.map_nil]); first | done | rfl | (simp only [List.length_drop, List.length_take]; rfl)) ?_; (with_reducible refine (code_Clean.calls a0 t102 _ A2.out).mono ?_); rintro e w6 ⟨rfl, hb⟩; refine ⟨_, rfl, ?_⟩; have n0_ := Aside0.mk (below_step (by repeat (first | (with_reducible first | exact HB.out | apply below_alloc | apply pw_below_drewN | apply below_drew1) | exact HB.out)) hb); clear HB; have HB := n0_; clear n0_; (try clear hb); (try clear hb2); (try clear hk); (try clear hi)))
      go_ret
      exact ⟨by first | rfl | (simp [errW_none, errW_some] <;> rfl) | (simp [*, errW_none, errW_some] <;> rfl), by repeat (first | (with_reducible first | exact HB.out | apply below_alloc | apply pw_below_drewN | apply below_drew1) | exact HB.out)⟩
    · rw [if_neg c5] at H
      have c5b0 : (t102 == 14) = false := beq_eq_false_iff_ne.mpr c5
      have c5b1 : (t102 != 14) = true := bne_iff_ne.mpr c5
      by_cases c7 : t102 = 8
      · rw [if_pos c7] at H
        have c7b0 : (t102 == 8) = true := beq_iff_eq.mpr c7
        have c7b1 : (t102 != 8) = false := bne_eq_false_iff_eq.mpr c7
        clear c7
        obtain rfl := Option.some.inj H
        go_enter Try.func60, Try.ntmps60
        go_wp2_with (first | ((with_reducible refine gate_callee (f := 38) rfl ?_); refine goesL_ (some 4) rfl rfl Try.func38 (by kernel_rfl) rfl #[.int .i64 a0] rfl (by (try simp only [List.map_toArray, List.map_cons, List.map_nil]); first | done | rfl | (simp only [List.length_drop, List.length_take]; rfl)) ?_; (with_reducible refine (code_Clean.calls a0 t102 _ A2.out).mono ?_); rintro e w8 ⟨rfl, hb⟩; refine ⟨_, rfl, ?_⟩; have n0_ := Aside0.mk (below_step (by repeat (first | (with_reducible first | exact HB.out | apply below_alloc | apply pw_below_drewN | apply below_drew1) | exact HB.out)) hb); clear HB; have HB := n0_; clear n0_; (try clear hb); (try clear hb2); (try clear hk); (try clear hi)))
        go_ret
        exact ⟨by first | rfl | (simp [errW_none, errW_some] <;> rfl) | (simp [*, errW_none, errW_some] <;> rfl), by repeat (first | (with_reducible first | exact HB.out | apply below_alloc | apply pw_below_drewN | apply below_drew1) | exact HB.out)⟩
      · rw [if_neg c7] at H
        have c7b0 : (t102 == 8) = false := beq_eq_false_iff_ne.mpr c7
        have c7b1 : (t102 != 8) = true := bne_iff_ne.mpr c7
        by_cases c9 : t102 = 4
        · rw [if_pos c9] at H
          have c9b0 : (t102 == 4) = true := beq_iff_eq.mpr c9
          have c9b1 : (t102 != 4) = false := bne_eq_false_iff_eq.mpr c9
          clear c9
          obtain rfl := Option.some.inj H
          go_enter Try.func60, Try.ntmps60
          go_wp2_with (first | ((with_reducible refine gate_callee (f := 38) rfl ?_); refine goesL_ (some 4) rfl rfl Try.func38 (by kernel_rfl) rfl #[.int .i64 a0] rfl (by (try simp only [List.map_toArray, List.map_cons, List.map_nil]); first | done | rfl | (simp only [List.length_drop, List.length_take]; rfl)) ?_; (with_reducible refine (code_Clean.calls a0 t102 _ A2.out).mono ?_); rintro e w10 ⟨rfl, hb⟩; refine ⟨_, rfl, ?_⟩; have n0_ := Aside0.mk (below_step (by repeat (first | (with_reducible first | exact HB.out | apply below_alloc | apply pw_below_drewN | apply below_drew1) | exact HB.out)) hb); clear HB; have HB := n0_; clear n0_; (try clear hb); (try clear hb2); (try clear hk); (try clear hi)))
          go_ret
          exact ⟨by first | rfl | (simp [errW_none, errW_some] <;> rfl) | (simp [*, errW_none, errW_some] <;> rfl), by repeat (first | (with_reducible first | exact HB.out | apply below_alloc | apply pw_below_drewN | apply below_drew1) | exact HB.out)⟩
        · rw [if_neg c9] at H
          have c9b0 : (t102 == 4) = false := beq_eq_false_iff_ne.mpr c9
          have c9b1 : (t102 != 4) = true := bne_iff_ne.mpr c9
          by_cases c11 : t102 = 1
          · rw [if_pos c11] at H
            have c11b0 : (t102 == 1) = true := beq_iff_eq.mpr c11
            have c11b1 : (t102 != 1) = false := bne_eq_false_iff_eq.mpr c11
            clear c11
            obtain rfl := Option.some.inj H
            go_enter Try.func60, Try.ntmps60
            go_wp2_with (first | ((with_reducible refine gate_callee (f := 38) rfl ?_); refine goesL_ (some 4) rfl rfl Try.func38 (by kernel_rfl) rfl #[.int .i64 a0] rfl (by (try simp only [List.map_toArray, List.map_cons, List.map_nil]); first | done | rfl | (simp only [List.length_drop, List.length_take]; rfl)) ?_; (with_reducible refine (code_Clean.calls a0 t102 _ A2.out).mono ?_); rintro e w12 ⟨rfl, hb⟩; refine ⟨_, rfl, ?_⟩; have n0_ := Aside0.mk (below_step (by repeat (first | (with_reducible first | exact HB.out | apply below_alloc | apply pw_below_drewN | apply below_drew1) | exact HB.out)) hb); clear HB; have HB := n0_; clear n0_; (try clear hb); (try clear hb2); (try clear hk); (try clear hi)))
            go_ret
            exact ⟨by first | rfl | (simp [errW_none, errW_some] <;> rfl) | (simp [*, errW_none, errW_some] <;> rfl), by repeat (first | (with_reducible first | exact HB.out | apply below_alloc | apply pw_below_drewN | apply below_drew1) | exact HB.out)⟩
          · rw [if_neg c11] at H
            have c11b0 : (t102 == 1) = false := beq_eq_false_iff_ne.mpr c11
            have c11b1 : (t102 != 1) = true := bne_iff_ne.mpr c11
            obtain rfl := Option.some.inj H
            go_enter Try.func60, Try.ntmps60
            go_wp2_with (first | ((with_reducible refine gate_callee (f := 38) rfl ?_); refine goesL_ (some 4) rfl rfl Try.func38 (by kernel_rfl) rfl #[.int .i64 a0] rfl (by (try simp only [List.map_toArray, List.map_cons, List.map_nil]); first | done | rfl | (simp only [List.length_drop, List.length_take]; rfl)) ?_; (with_reducible refine (code_Clean.calls a0 t102 _ A2.out).mono ?_); rintro e w13 ⟨rfl, hb⟩; refine ⟨_, rfl, ?_⟩; have n0_ := Aside0.mk (below_step (by repeat (first | (with_reducible first | exact HB.out | apply below_alloc | apply pw_below_drewN | apply below_drew1) | exact HB.out)) hb); clear HB; have HB := n0_; clear n0_; (try clear hb); (try clear hb2); (try clear hk); (try clear hi)))
            go_ret
            exact ⟨by first | rfl | (simp [errW_none, errW_some] <;> rfl) | (simp [*, errW_none, errW_some] <;> rfl), by repeat (first | (with_reducible first | exact HB.out | apply below_alloc | apply pw_below_drewN | apply below_drew1) | exact HB.out)⟩

/-! ### code_Join: function 37 -/
def code_Join.f (a0 : Int) (a1 : Int) : Option (Int) := (code_Clean.f a0).bind fun t103 => ((code_Clean.f a1).bind fun t104 => ((code_rank.f t104).bind fun t105 => ((code_rank.f t103).bind fun t106 => (if t105 > t106 then (some t104) else (some t103)))))
set_option maxHeartbeats 40000000 in
set_option maxRecDepth 100000 in
theorem code_Join.calls (a0 : Int) (a1 : Int) (r : Int) (w : World) (h : code_Join.f a0 a1 = some r) :
    Calls Try.prog 37 #[.int .i64 a0, .int .i64 a1] w fun e w' => e = .returned (.int .i64 r) ∧ Below w.heap.size w w' := by
  have HB := Aside0.mk (Below.refl w.heap.size w)
  have H : ((code_Clean.f a0).bind fun t103 => ((code_Clean.f a1).bind fun t104 => ((code_rank.f t104).bind fun t105 => ((code_rank.f t103).bind fun t106 => (if t105 > t106 then (some t104) else (some t103)))))) = some r := h
  clear h
  replace H := Option.bind_eq_some_iff.mp H
  obtain ⟨t103, A30, H⟩ := H
  replace H : ((code_Clean.f a1).bind fun t104 => ((code_rank.f t104).bind fun t105 => ((code_rank.f t103).bind fun t106 => (if t105 > t106 then (some t104) else (some t103))))) = some r := H
  have A3 := Aside0.mk A30
  clear A30
  replace H := Option.bind_eq_some_iff.mp H
  obtain ⟨t104, A40, H⟩ := H
  replace H : ((code_rank.f t104).bind fun t105 => ((code_rank.f t103).bind fun t106 => (if t105 > t106 then (some t104) else (some t103)))) = some r := H
  have A4 := Aside0.mk A40
  clear A40
  replace H := Option.bind_eq_some_iff.mp H
  obtain ⟨t105, A50, H⟩ := H
  replace H : ((code_rank.f t103).bind fun t106 => (if t105 > t106 then (some t104) else (some t103))) = some r := H
  have A5 := Aside0.mk A50
  clear A50
  replace H := Option.bind_eq_some_iff.mp H
  obtain ⟨t106, A60, H⟩ := H
  replace H : (if t105 > t106 then (some t104) else (some t103)) = some r := H
  have A6 := Aside0.mk A60
  clear A60
  by_cases c7 : t105 > t106
  · rw [if_pos c7] at H
    have c7b0 : decide (t106 < t105) = true := decide_eq_true c7
    clear c7
    obtain rfl := Option.some.inj H
    go_enter Try.func37, Try.ntmps37
    go_wp2_with (first | ((with_reducible refine gate_callee (f := 38) rfl ?_); refine goesL_ (some 6) rfl rfl Try.func38 (by kernel_rfl) rfl #[.int .i64 a0] rfl (by (try simp only [List.map_toArray, List.map_cons, List.map_nil]); first | done | rfl | (simp only [List.length_drop, List.length_take]; rfl)) ?_; (with_reducible refine (code_Clean.calls a0 t103 _ A3.out).mono ?_); rintro e w8 ⟨rfl, hb⟩; refine ⟨_, rfl, ?_⟩; have n0_ := Aside0.mk (below_step (by repeat (first | (with_reducible first | exact HB.out | apply below_alloc | apply pw_below_drewN | apply below_drew1) | exact HB.out)) hb); clear HB; have HB := n0_; clear n0_; (try clear hb); (try clear hb2); (try clear hk); (try clear hi)) | ((with_reducible refine gate_callee (f := 38) rfl ?_); refine goesL_ (some 8) rfl rfl Try.func38 (by kernel_rfl) rfl #[.int .i64 a1] rfl (by (try simp only [List.map_toArray, List.map_cons, List.map_nil]); first | done | rfl | (simp only [List.length_drop, List.length_take]; rfl)) ?_; (with_reducible refine (code_Clean.calls a1 t104 _ A4.out).mono ?_); rintro e w9 ⟨rfl, hb⟩; refine ⟨_, rfl, ?_⟩; have n0_ := Aside0.mk (below_step (by repeat (first | (with_reducible first | exact HB.out | apply below_alloc | apply pw_below_drewN | apply below_drew1) | exact HB.out)) hb); clear HB; have HB := n0_; clear n0_; (try clear hb); (try clear hb2); (try clear hk); (try clear hi)) | ((with_reducible refine gate_callee (f := 60) rfl ?_); refine goesL_ (some 10) rfl rfl Try.func60 (by kernel_rfl) rfl #[.int .i64 t104] rfl (by (try simp only [List.map_toArray, List.map_cons, List.map_nil]); first | done | rfl | (simp only [List.length_drop, List.length_take]; rfl)) ?_; (with_reducible refine (code_rank.calls t104 t105 _ A5.out).mono ?_); rintro e w10 ⟨rfl, hb⟩; refine ⟨_, rfl, ?_⟩; have n0_ := Aside0.mk (below_step (by repeat (first | (with_reducible first | exact HB.out | apply below_alloc | apply pw_below_drewN | apply below_drew1) | exact HB.out)) hb); clear HB; have HB := n0_; clear n0_; (try clear hb); (try clear hb2); (try clear hk); (try clear hi)) | ((with_reducible refine gate_callee (f := 60) rfl ?_); refine goesL_ (some 12) rfl rfl Try.func60 (by kernel_rfl) rfl #[.int .i64 t103] rfl (by (try simp only [List.map_toArray, List.map_cons, List.map_nil]); first | done | rfl | (simp only [List.length_drop, List.length_take]; rfl)) ?_; (with_reducible refine (code_rank.calls t103 t106 _ A6.out).mono ?_); rintro e w11 ⟨rfl, hb⟩; refine ⟨_, rfl, ?_⟩; have n0_ := Aside0.mk (below_step (by repeat (first | (with_reducible first | exact HB.out | apply below_alloc | apply pw_below_drewN | apply below_drew1) | exact HB.out)) hb); clear HB; have HB := n0_; clear n0_; (try clear hb); (try clear hb2); (try clear hk); (try clear hi)))
    go_ret
    exact ⟨by first | rfl | (simp [errW_none, errW_some] <;> rfl) | (simp [*, errW_none, errW_some] <;> rfl), by repeat (first | (with_reducible first | exact HB.out | apply below_alloc | apply pw_below_drewN | apply below_drew1) | exact HB.out)⟩
  · rw [if_neg c7] at H
    have c7b0 : decide (t106 < t105) = false := decide_eq_false c7
    clear c7
    obtain rfl := Option.some.inj H
    go_enter Try.func37, Try.ntmps37
    go_wp2_with (first | ((with_reducible refine gate_callee (f := 38) rfl ?_); refine goesL_ (some 6) rfl rfl Try.func38 (by kernel_rfl) rfl #[.int .i64 a0] rfl (by (try simp only [List.map_toArray, List.map_cons, List.map_nil]); first | done | rfl | (simp only [List.length_drop, List.length_take]; rfl)) ?_; (with_reducible refine (code_Clean.calls a0 t103 _ A3.out).mono ?_); rintro e w12 ⟨rfl, hb⟩; refine ⟨_, rfl, ?_⟩; have n0_ := Aside0.mk (below_step (by repeat (first | (with_reducible first | exact HB.out | apply below_alloc | apply pw_below_drewN | apply below_drew1) | exact HB.out)) hb); clear HB; have HB := n0_; clear n0_; (try clear hb); (try clear hb2); (try clear hk); (try clear hi)) | ((with_reducible refine gate_callee (f := 38) rfl ?_); refine goesL_ (some 8) rfl rfl Try.func38 (by kernel_rfl) rfl #[.int .i64 a1] rfl (by (try simp only [List.map_toArray, List.map_cons, List.map_nil]); first | done | rfl | (simp only [List.length_drop, List.length_take]; rfl)) ?_; (with_reducible refine (code_Clean.calls a1 t104 _ A4.out).mono ?_); rintro e w13 ⟨rfl, hb⟩; refine ⟨_, rfl, ?_⟩; have n0_ := Aside0.mk (below_step (by repeat (first | (with_reducible first | exact HB.out | apply below_alloc | apply pw_below_drewN | apply below_drew1) | exact HB.out)) hb); clear HB; have HB := n0_; clear n0_; (try clear hb); (try clear hb2); (try clear hk); (try clear hi)) | ((with_reducible refine gate_callee (f := 60) rfl ?_); refine goesL_ (some 10) rfl rfl Try.func60 (by kernel_rfl) rfl #[.int .i64 t104] rfl (by (try simp only [List.map_toArray, List.map_cons, List.map_nil]); first | done | rfl | (simp only [List.length_drop, List.length_take]; rfl)) ?_; (with_reducible refine (code_rank.calls t104 t105 _ A5.out).mono ?_); rintro e w14 ⟨rfl, hb⟩; refine ⟨_, rfl, ?_⟩; have n0_ := Aside0.mk (below_step (by repeat (first | (with_reducible first | exact HB.out | apply below_alloc | apply pw_below_drewN | apply below_drew1) | exact HB.out)) hb); clear HB; have HB := n0_; clear n0_; (try clear hb); (try clear hb2); (try clear hk); (try clear hi)) | ((with_reducible refine gate_callee (f := 60) rfl ?_); refine goesL_ (some 12) rfl rfl Try.func60 (by kernel_rfl) rfl #[.int .i64 t103] rfl (by (try simp only [List.map_toArray, List.map_cons, List.map_nil]); first | done | rfl | (simp only [List.length_drop, List.length_take]; rfl)) ?_; (with_reducible refine (code_rank.calls t103 t106 _ A6.out).mono ?_); rintro e w15 ⟨rfl, hb⟩; refine ⟨_, rfl, ?_⟩; have n0_ := Aside0.mk (below_step (by repeat (first | (with_reducible first | exact HB.out | apply below_alloc | apply pw_below_drewN | apply below_drew1) | exact HB.out)) hb); clear HB; have HB := n0_; clear n0_; (try clear hb); (try clear hb2); (try clear hk); (try clear hi)))
    go_ret
    exact ⟨by first | rfl | (simp [errW_none, errW_some] <;> rfl) | (simp [*, errW_none, errW_some] <;> rfl), by repeat (first | (with_reducible first | exact HB.out | apply below_alloc | apply pw_below_drewN | apply below_drew1) | exact HB.out)⟩

/-! ### code_Text: function 41 -/
def code_Text.f (a0 : Int) : Option (ByteArray) := (code_Clean.f a0).bind fun t => (if 0 ≤ t then (if t < 17 then (some (code_nm t)) else (none)) else (none))
set_option maxRecDepth 100000 in
set_option maxHeartbeats 1000000 in
theorem code_Text.calls (a0 : Int) (r : ByteArray) (w : World) (h : code_Text.f a0 = some r) : Calls Try.prog 41 #[.int .i64 a0] w fun e w' => e = .returned (.string r) ∧ Below w.heap.size w w' := by
  unfold code_Text.f at h
  obtain ⟨t, A, h⟩ := Option.bind_eq_some_iff.mp h
  by_cases c0 : 0 ≤ t
  · rw [if_pos c0] at h
    by_cases c1 : t < 17
    · rw [if_pos c1] at h
      obtain rfl := Option.some.inj h
      have HA := Aside0.mk A
      clear h A
      have hix := fun w => code_nm_index c0 c1 w
      go_enter Try.func41, Try.ntmps41
      go_wp2_with (first | (go_at_call 61; refine (code_names.calls _).mono ?_; rintro e w1 ⟨rfl, hb⟩) | (go_at_call 38; refine (code_Clean.calls _ _ _ HA.out).mono ?_; rintro e w2 ⟨rfl, hb2⟩))
      go_ret
      exact ⟨rfl, below_step hb hb2⟩
    · rw [if_neg c1] at h; cases h
  · rw [if_neg c0] at h; cases h

/-! ### code_Again: function 47 -/
def code_Again.f (a0 : Int) : Option (Bool) := if a0 = 14 then (some true) else (some (a0 == 8))
set_option maxHeartbeats 40000000 in
set_option maxRecDepth 100000 in
theorem code_Again.calls (a0 : Int) (r : Bool) (w : World) (h : code_Again.f a0 = some r) :
    Calls Try.prog 47 #[.int .i64 a0] w fun e w' => e = .returned (.bool r) ∧ Drawn0 w w' := by
  have H : (if a0 = 14 then (some true) else (some (a0 == 8))) = some r := h
  clear h
  by_cases c2 : a0 = 14
  · rw [if_pos c2] at H
    have c2b0 : (a0 == 14) = true := beq_iff_eq.mpr c2
    have c2b1 : (a0 != 14) = false := bne_eq_false_iff_eq.mpr c2
    clear c2
    obtain rfl := Option.some.inj H
    go_enter Try.func47, Try.ntmps47
    go_wp2
    go_ret
    exact ⟨by first | rfl | (simp; done) | (simp [*]; done), by repeat (first | exact Drawn0.refl _ | apply Drawn0.step)⟩
  · rw [if_neg c2] at H
    have c2b0 : (a0 == 14) = false := beq_eq_false_iff_ne.mpr c2
    have c2b1 : (a0 != 14) = true := bne_iff_ne.mpr c2
    obtain rfl := Option.some.inj H
    go_enter Try.func47, Try.ntmps47
    go_wp2
    go_ret
    exact ⟨by first | rfl | (simp; done) | (simp [*]; done), by repeat (first | exact Drawn0.refl _ | apply Drawn0.step)⟩

/-! ### hourglasslaw05_awake: function 39 -/
def hourglasslaw05_awake.f  : Option (Bool) := (code_Join.f 14 13).bind fun t107 => (if t107 = 13 then ((code_Text.f 4).bind fun t108 => (if t108.toList = ([68, 69, 65, 68, 76, 73, 78, 69, 95, 69, 88, 67, 69, 69, 68, 69, 68] : List UInt8) then ((code_Again.f 8).bind fun t109 => (some t109)) else (some false))) else (some false))
set_option maxHeartbeats 40000000 in
set_option maxRecDepth 100000 in
theorem hourglasslaw05_awake.calls  (r : Bool) (w : World) (h : hourglasslaw05_awake.f  = some r) :
    Calls Try.prog 39 #[] w fun e w' => e = .returned (.bool r) ∧ Below w.heap.size w w' := by
  have HB := Aside0.mk (Below.refl w.heap.size w)
  have H : ((code_Join.f 14 13).bind fun t107 => (if t107 = 13 then ((code_Text.f 4).bind fun t108 => (if t108.toList = ([68, 69, 65, 68, 76, 73, 78, 69, 95, 69, 88, 67, 69, 69, 68, 69, 68] : List UInt8) then ((code_Again.f 8).bind fun t109 => (some t109)) else (some false))) else (some false))) = some r := h
  clear h
  replace H := Option.bind_eq_some_iff.mp H
  obtain ⟨t107, A10, H⟩ := H
  replace H : (if t107 = 13 then ((code_Text.f 4).bind fun t108 => (if t108.toList = ([68, 69, 65, 68, 76, 73, 78, 69, 95, 69, 88, 67, 69, 69, 68, 69, 68] : List UInt8) then ((code_Again.f 8).bind fun t109 => (some t109)) else (some false))) else (some false)) = some r := H
  have A1 := Aside0.mk A10
  clear A10
  by_cases c2 : t107 = 13
  · rw [if_pos c2] at H
    have c2b0 : (t107 == 13) = true := beq_iff_eq.mpr c2
    have c2b1 : (t107 != 13) = false := bne_eq_false_iff_eq.mpr c2
    clear c2
    replace H := Option.bind_eq_some_iff.mp H
    obtain ⟨t108, A30, H⟩ := H
    replace H : (if t108.toList = ([68, 69, 65, 68, 76, 73, 78, 69, 95, 69, 88, 67, 69, 69, 68, 69, 68] : List UInt8) then ((code_Again.f 8).bind fun t109 => (some t109)) else (some false)) = some r := H
    have A3 := Aside0.mk A30
    clear A30
    by_cases c4 : t108.toList = ([68, 69, 65, 68, 76, 73, 78, 69, 95, 69, 88, 67, 69, 69, 68, 69, 68] : List UInt8)
    · rw [if_pos c4] at H
      have c4b0 : (t108.toList == ([68, 69, 65, 68, 76, 73, 78, 69, 95, 69, 88, 67, 69, 69, 68, 69, 68] : List UInt8)) = true := beq_iff_eq.mpr c4
      have c4b1 : (t108.toList != ([68, 69, 65, 68, 76, 73, 78, 69, 95, 69, 88, 67, 69, 69, 68, 69, 68] : List UInt8)) = false := bne_eq_false_iff_eq.mpr c4
      clear c4
      replace H := Option.bind_eq_some_iff.mp H
      obtain ⟨t109, A50, H⟩ := H
      replace H : (some t109) = some r := H
      have A5 := Aside0.mk A50
      clear A50
      obtain rfl := Option.some.inj H
      go_enter Try.func39, Try.ntmps39
      go_wp2_with (first | ((with_reducible refine gate_callee (f := 37) rfl ?_); refine goesL_ (some 1) rfl rfl Try.func37 (by kernel_rfl) rfl #[.int .i64 14, .int .i64 13] rfl (by (try simp only [List.map_toArray, List.map_cons, List.map_nil]); first | done | rfl | (simp only [List.length_drop, List.length_take]; rfl)) ?_; (with_reducible refine (code_Join.calls 14 13 t107 _ A1.out).mono ?_); rintro e w6 ⟨rfl, hb⟩; refine ⟨_, rfl, ?_⟩; have n0_ := Aside0.mk (below_step (by repeat (first | (with_reducible first | exact HB.out | apply below_alloc | apply pw_below_drewN | apply below_drew1) | exact HB.out)) hb); clear HB; have HB := n0_; clear n0_; (try clear hb); (try clear hb2); (try clear hk); (try clear hi)) | (go_at_call 41; (with_reducible refine (code_Text.calls 4 t108 _ A3.out).mono ?_); rintro e w7 ⟨rfl, hb⟩; have n0_ := Aside0.mk (below_step (by repeat (first | (with_reducible first | exact HB.out | apply below_alloc | apply pw_below_drewN | apply below_drew1) | exact HB.out)) hb); clear HB; have HB := n0_; clear n0_; (try clear hb); (try clear hb2); (try clear hk); (try clear hi)) | (go_at_call 47; (with_reducible refine (code_Again.calls 8 t109 _ A5.out).mono ?_); rintro e w' ⟨rfl, ⟨nd, rfl⟩⟩))
      go_ret
      exact ⟨by first | rfl | (simp [errW_none, errW_some] <;> rfl) | (simp [*, errW_none, errW_some] <;> rfl), by repeat (first | (with_reducible first | exact HB.out | apply below_alloc | apply pw_below_drewN | apply below_drew1) | exact HB.out)⟩
    · rw [if_neg c4] at H
      have c4b0 : (t108.toList == ([68, 69, 65, 68, 76, 73, 78, 69, 95, 69, 88, 67, 69, 69, 68, 69, 68] : List UInt8)) = false := beq_eq_false_iff_ne.mpr c4
      have c4b1 : (t108.toList != ([68, 69, 65, 68, 76, 73, 78, 69, 95, 69, 88, 67, 69, 69, 68, 69, 68] : List UInt8)) = true := bne_iff_ne.mpr c4
      obtain rfl := Option.some.inj H
      go_enter Try.func39, Try.ntmps39
      go_wp2_with (first | ((with_reducible refine gate_callee (f := 37) rfl ?_); refine goesL_ (some 1) rfl rfl Try.func37 (by kernel_rfl) rfl #[.int .i64 14, .int .i64 13] rfl (by (try simp only [List.map_toArray, List.map_cons, List.map_nil]); first | done | rfl | (simp only [List.length_drop, List.length_take]; rfl)) ?_; (with_reducible refine (code_Join.calls 14 13 t107 _ A1.out).mono ?_); rintro e w8 ⟨rfl, hb⟩; refine ⟨_, rfl, ?_⟩; have n0_ := Aside0.mk (below_step (by repeat (first | (with_reducible first | exact HB.out | apply below_alloc | apply pw_below_drewN | apply below_drew1) | exact HB.out)) hb); clear HB; have HB := n0_; clear n0_; (try clear hb); (try clear hb2); (try clear hk); (try clear hi)) | (go_at_call 41; (with_reducible refine (code_Text.calls 4 t108 _ A3.out).mono ?_); rintro e w9 ⟨rfl, hb⟩; have n0_ := Aside0.mk (below_step (by repeat (first | (with_reducible first | exact HB.out | apply below_alloc | apply pw_below_drewN | apply below_drew1) | exact HB.out)) hb); clear HB; have HB := n0_; clear n0_; (try clear hb); (try clear hb2); (try clear hk); (try clear hi)))
      go_ret
      exact ⟨by first | rfl | (simp [errW_none, errW_some] <;> rfl) | (simp [*, errW_none, errW_some] <;> rfl), by repeat (first | (with_reducible first | exact HB.out | apply below_alloc | apply pw_below_drewN | apply below_drew1) | exact HB.out)⟩
  · rw [if_neg c2] at H
    have c2b0 : (t107 == 13) = false := beq_eq_false_iff_ne.mpr c2
    have c2b1 : (t107 != 13) = true := bne_iff_ne.mpr c2
    obtain rfl := Option.some.inj H
    go_enter Try.func39, Try.ntmps39
    go_wp2_with (first | ((with_reducible refine gate_callee (f := 37) rfl ?_); refine goesL_ (some 1) rfl rfl Try.func37 (by kernel_rfl) rfl #[.int .i64 14, .int .i64 13] rfl (by (try simp only [List.map_toArray, List.map_cons, List.map_nil]); first | done | rfl | (simp only [List.length_drop, List.length_take]; rfl)) ?_; (with_reducible refine (code_Join.calls 14 13 t107 _ A1.out).mono ?_); rintro e w10 ⟨rfl, hb⟩; refine ⟨_, rfl, ?_⟩; have n0_ := Aside0.mk (below_step (by repeat (first | (with_reducible first | exact HB.out | apply below_alloc | apply pw_below_drewN | apply below_drew1) | exact HB.out)) hb); clear HB; have HB := n0_; clear n0_; (try clear hb); (try clear hb2); (try clear hk); (try clear hi)))
    go_ret
    exact ⟨by first | rfl | (simp [errW_none, errW_some] <;> rfl) | (simp [*, errW_none, errW_some] <;> rfl), by repeat (first | (with_reducible first | exact HB.out | apply below_alloc | apply pw_below_drewN | apply below_drew1) | exact HB.out)⟩

/-! ### hourglasslaw05_CodeJoins: function 10 -/
def hourglasslaw05_CodeJoins.j0 : Nat → Int → Int → Int → Bool → Option (Bool)
  | 0, _, _, _, _ => none
  | k + 1, x0, x1, x7, x34 => if x34 = true then (some false) else ((code_Join.f 0 x0).bind fun t117 => ((code_Clean.f x0).bind fun t118 => (if t117 = t118 then ((code_Join.f x0 1).bind fun t119 => (if t119 = 1 then ((code_Clean.f x0).bind fun t120 => (if x7 = t120 then ((hourglasslaw05_awake.f).bind fun t121 => (some t121)) else ((code_Clean.f x1).bind fun t122 => (if x7 = t122 then ((hourglasslaw05_awake.f).bind fun t123 => (some t123)) else (some false))))) else (some false))) else (some false))))
def hourglasslaw05_CodeJoins.f (k : Nat) (a0 : Int) (a1 : Int) (a2 : Int) : Option (Bool) := (code_Join.f a0 a1).bind fun t110 => ((code_Join.f a1 a0).bind fun t111 => (if t110 = t111 then ((code_Join.f t110 a2).bind fun t112 => ((code_Join.f a1 a2).bind fun t113 => ((code_Join.f a0 t113).bind fun t114 => (if t112 = t114 then ((code_Join.f a0 a0).bind fun t115 => ((code_Clean.f a0).bind fun t116 => (hourglasslaw05_CodeJoins.j0 k a0 a1 t110 (t115 != t116)))) else (hourglasslaw05_CodeJoins.j0 k a0 a1 t110 true))))) else (hourglasslaw05_CodeJoins.j0 k a0 a1 t110 true)))
theorem hourglasslaw05_CodeJoins.mono_l : ∀ k, (∀ y0 y1 y2 y3, LeO (hourglasslaw05_CodeJoins.j0 k y0 y1 y2 y3) (hourglasslaw05_CodeJoins.j0 (k + 1) y0 y1 y2 y3))
  | 0 => fun _ _ _ _ r h => by simp [hourglasslaw05_CodeJoins.j0] at h
  | k + 1 => by
    have ih0 := hourglasslaw05_CodeJoins.mono_l k
    · intro y0 y1 y2 y3
      unfold hourglasslaw05_CodeJoins.j0
      repeat' first
      | (with_reducible exact ih0 _ _ _ _)
      | (with_reducible exact LeO.refl _)
      | (with_reducible exact LeO.none _)
      | (with_reducible refine LeO.ite ?_ ?_)
      | (with_reducible refine LeO.bind ?_ (fun _ => ?_))
      | exact ih0 _ _ _ _
      | exact LeO.none _
      | refine LeO.ite ?_ ?_
      | refine LeO.bind ?_ (fun _ => ?_)
theorem hourglasslaw05_CodeJoins.mono : ∀ a0 a1 a2 k, LeO (hourglasslaw05_CodeJoins.f k a0 a1 a2) (hourglasslaw05_CodeJoins.f (k + 1) a0 a1 a2) := by
  intro a0 a1 a2 k
  have ih0 := hourglasslaw05_CodeJoins.mono_l k
  unfold hourglasslaw05_CodeJoins.f
  repeat' first
      | (with_reducible exact ih0 _ _ _ _)
      | (with_reducible exact LeO.refl _)
      | (with_reducible exact LeO.none _)
      | (with_reducible refine LeO.ite ?_ ?_)
      | (with_reducible refine LeO.bind ?_ (fun _ => ?_))
      | exact ih0 _ _ _ _
      | exact LeO.none _
      | refine LeO.ite ?_ ?_
      | refine LeO.bind ?_ (fun _ => ?_)
theorem hourglasslaw05_CodeJoins.j0_no : ∀ k y0 y1 y2, hourglasslaw05_CodeJoins.j0 k y0 y1 y2 true ≠ some true := by
  intro k y0 y1 y2; cases k <;> simp [hourglasslaw05_CodeJoins.j0]
set_option maxHeartbeats 40000000 in
set_option maxRecDepth 100000 in
theorem hourglasslaw05_CodeJoins.calls (k : Nat) (a0 : Int) (a1 : Int) (a2 : Int) (r : Bool) (w : World) (h : hourglasslaw05_CodeJoins.f k a0 a1 a2 = some r) (hrT : r = true) :
    Calls Try.prog 10 #[.int .i64 a0, .int .i64 a1, .int .i64 a2] w fun e w' => e = .returned (.bool r) ∧ Below w.heap.size w w' := by
  have HRT := Aside0.mk hrT
  clear hrT
  have HB := Aside0.mk (Below.refl w.heap.size w)
  have H : ((code_Join.f a0 a1).bind fun t110 => ((code_Join.f a1 a0).bind fun t111 => (if t110 = t111 then ((code_Join.f t110 a2).bind fun t112 => ((code_Join.f a1 a2).bind fun t113 => ((code_Join.f a0 t113).bind fun t114 => (if t112 = t114 then ((code_Join.f a0 a0).bind fun t115 => ((code_Clean.f a0).bind fun t116 => (hourglasslaw05_CodeJoins.j0 k a0 a1 t110 (t115 != t116)))) else (hourglasslaw05_CodeJoins.j0 k a0 a1 t110 true))))) else (hourglasslaw05_CodeJoins.j0 k a0 a1 t110 true)))) = some r := h
  clear h
  replace H := Option.bind_eq_some_iff.mp H
  obtain ⟨t110, A40, H⟩ := H
  replace H : ((code_Join.f a1 a0).bind fun t111 => (if t110 = t111 then ((code_Join.f t110 a2).bind fun t112 => ((code_Join.f a1 a2).bind fun t113 => ((code_Join.f a0 t113).bind fun t114 => (if t112 = t114 then ((code_Join.f a0 a0).bind fun t115 => ((code_Clean.f a0).bind fun t116 => (hourglasslaw05_CodeJoins.j0 k a0 a1 t110 (t115 != t116)))) else (hourglasslaw05_CodeJoins.j0 k a0 a1 t110 true))))) else (hourglasslaw05_CodeJoins.j0 k a0 a1 t110 true))) = some r := H
  have A4 := Aside0.mk A40
  clear A40
  have HC5 := Aside0.mk H
  clear H
  go_enter Try.func10, Try.ntmps10
  go_upto_region 2 with (first | ((with_reducible refine gate_callee (f := 37) rfl ?_); refine goesL_ (some 10) rfl rfl Try.func37 (by kernel_rfl) rfl #[.int .i64 a0, .int .i64 a1] rfl (by (try simp only [List.map_toArray, List.map_cons, List.map_nil]); first | done | rfl | (simp only [List.length_drop, List.length_take]; rfl)) ?_; (with_reducible refine (code_Join.calls a0 a1 t110 _ A4.out).mono ?_); rintro e w6 ⟨rfl, hb⟩; refine ⟨_, rfl, ?_⟩; have n0_ := Aside0.mk (below_step (by repeat (first | (with_reducible first | exact HB.out | apply below_alloc | apply pw_below_drewN | apply below_drew1) | exact HB.out)) hb); clear HB; have HB := n0_; clear n0_; (try clear hb); (try clear hb2); (try clear hk); (try clear hi)))
  (try simp only [Act.put, List.setIfInBounds_toArray, List.set_cons_zero, List.set_cons_succ])
  go_cut [34] (fun v34 wc => ∃ (kq : Nat) (x34_4 : Bool), v34 = .bool x34_4 ∧ Aside0 (hourglasslaw05_CodeJoins.j0 kq a0 a1 t110 x34_4 = some r) ∧ Aside0 (kq ≤ k) ∧ Aside0 (Below w.heap.size w wc))
  case first =>
    have H := HC5.out
    clear HC5
    replace H := Option.bind_eq_some_iff.mp H
    obtain ⟨t111, A70, H⟩ := H
    replace H : (if t110 = t111 then ((code_Join.f t110 a2).bind fun t112 => ((code_Join.f a1 a2).bind fun t113 => ((code_Join.f a0 t113).bind fun t114 => (if t112 = t114 then ((code_Join.f a0 a0).bind fun t115 => ((code_Clean.f a0).bind fun t116 => (hourglasslaw05_CodeJoins.j0 k a0 a1 t110 (t115 != t116)))) else (hourglasslaw05_CodeJoins.j0 k a0 a1 t110 true))))) else (hourglasslaw05_CodeJoins.j0 k a0 a1 t110 true)) = some r := H
    have A7 := Aside0.mk A70
    clear A70
    by_cases c8 : t110 = t111
    · rw [if_pos c8] at H
      have c8b0 : (t110 == t111) = true := beq_iff_eq.mpr c8
      have c8b1 : (t110 != t111) = false := bne_eq_false_iff_eq.mpr c8
      clear c8
      (first | rw [c8b0] | (simp only [i64_w, i32_w]; rw [c8b0]) | skip)
      replace H := Option.bind_eq_some_iff.mp H
      obtain ⟨t112, A90, H⟩ := H
      replace H : ((code_Join.f a1 a2).bind fun t113 => ((code_Join.f a0 t113).bind fun t114 => (if t112 = t114 then ((code_Join.f a0 a0).bind fun t115 => ((code_Clean.f a0).bind fun t116 => (hourglasslaw05_CodeJoins.j0 k a0 a1 t110 (t115 != t116)))) else (hourglasslaw05_CodeJoins.j0 k a0 a1 t110 true)))) = some r := H
      have A9 := Aside0.mk A90
      clear A90
      replace H := Option.bind_eq_some_iff.mp H
      obtain ⟨t113, A100, H⟩ := H
      replace H : ((code_Join.f a0 t113).bind fun t114 => (if t112 = t114 then ((code_Join.f a0 a0).bind fun t115 => ((code_Clean.f a0).bind fun t116 => (hourglasslaw05_CodeJoins.j0 k a0 a1 t110 (t115 != t116)))) else (hourglasslaw05_CodeJoins.j0 k a0 a1 t110 true))) = some r := H
      have A10 := Aside0.mk A100
      clear A100
      replace H := Option.bind_eq_some_iff.mp H
      obtain ⟨t114, A110, H⟩ := H
      replace H : (if t112 = t114 then ((code_Join.f a0 a0).bind fun t115 => ((code_Clean.f a0).bind fun t116 => (hourglasslaw05_CodeJoins.j0 k a0 a1 t110 (t115 != t116)))) else (hourglasslaw05_CodeJoins.j0 k a0 a1 t110 true)) = some r := H
      have A11 := Aside0.mk A110
      clear A110
      by_cases c12 : t112 = t114
      · rw [if_pos c12] at H
        have c12b0 : (t112 == t114) = true := beq_iff_eq.mpr c12
        have c12b1 : (t112 != t114) = false := bne_eq_false_iff_eq.mpr c12
        clear c12
        replace H := Option.bind_eq_some_iff.mp H
        obtain ⟨t115, A130, H⟩ := H
        replace H : ((code_Clean.f a0).bind fun t116 => (hourglasslaw05_CodeJoins.j0 k a0 a1 t110 (t115 != t116))) = some r := H
        have A13 := Aside0.mk A130
        clear A130
        replace H := Option.bind_eq_some_iff.mp H
        obtain ⟨t116, A140, H⟩ := H
        replace H : (hourglasslaw05_CodeJoins.j0 k a0 a1 t110 (t115 != t116)) = some r := H
        have A14 := Aside0.mk A140
        clear A140
        have H' := Aside0.mk H
        clear H
        go_wp2_with (first | ((with_reducible refine gate_callee (f := 37) rfl ?_); refine goesL_ (some 14) rfl rfl Try.func37 (by kernel_rfl) rfl #[.int .i64 a1, .int .i64 a0] rfl (by (try simp only [List.map_toArray, List.map_cons, List.map_nil]); first | done | rfl | (simp only [List.length_drop, List.length_take]; rfl)) ?_; (with_reducible refine (code_Join.calls a1 a0 t111 _ A7.out).mono ?_); rintro e w15 ⟨rfl, hb⟩; refine ⟨_, rfl, ?_⟩; have n0_ := Aside0.mk (below_step (by repeat (first | (with_reducible first | exact HB.out | apply below_alloc | apply pw_below_drewN | apply below_drew1) | exact HB.out)) hb); clear HB; have HB := n0_; clear n0_; (try clear hb); (try clear hb2); (try clear hk); (try clear hi)) | (go_at_call 37; (with_reducible refine (code_Join.calls t110 a2 t112 _ A9.out).mono ?_); rintro e w16 ⟨rfl, hb⟩; have n0_ := Aside0.mk (below_step (by repeat (first | (with_reducible first | exact HB.out | apply below_alloc | apply pw_below_drewN | apply below_drew1) | exact HB.out)) hb); clear HB; have HB := n0_; clear n0_; (try clear hb); (try clear hb2); (try clear hk); (try clear hi)) | (go_at_call 37; (with_reducible refine (code_Join.calls a1 a2 t113 _ A10.out).mono ?_); rintro e w17 ⟨rfl, hb⟩; have n0_ := Aside0.mk (below_step (by repeat (first | (with_reducible first | exact HB.out | apply below_alloc | apply pw_below_drewN | apply below_drew1) | exact HB.out)) hb); clear HB; have HB := n0_; clear n0_; (try clear hb); (try clear hb2); (try clear hk); (try clear hi)) | (go_at_call 37; (with_reducible refine (code_Join.calls a0 t113 t114 _ A11.out).mono ?_); rintro e w18 ⟨rfl, hb⟩; have n0_ := Aside0.mk (below_step (by repeat (first | (with_reducible first | exact HB.out | apply below_alloc | apply pw_below_drewN | apply below_drew1) | exact HB.out)) hb); clear HB; have HB := n0_; clear n0_; (try clear hb); (try clear hb2); (try clear hk); (try clear hi)) | (go_at_call 37; (with_reducible refine (code_Join.calls a0 a0 t115 _ A13.out).mono ?_); rintro e w19 ⟨rfl, hb⟩; have n0_ := Aside0.mk (below_step (by repeat (first | (with_reducible first | exact HB.out | apply below_alloc | apply pw_below_drewN | apply below_drew1) | exact HB.out)) hb); clear HB; have HB := n0_; clear n0_; (try clear hb); (try clear hb2); (try clear hk); (try clear hi)) | (go_at_call 38; (with_reducible refine (code_Clean.calls a0 t116 _ A14.out).mono ?_); rintro e w20 ⟨rfl, hb⟩; have n0_ := Aside0.mk (below_step (by repeat (first | (with_reducible first | exact HB.out | apply below_alloc | apply pw_below_drewN | apply below_drew1) | exact HB.out)) hb); clear HB; have HB := n0_; clear n0_; (try clear hb); (try clear hb2); (try clear hk); (try clear hi)))
        go_meet
        case rel => exact ⟨_, ((t115 != t116)), (by first | rfl | (simp; done) | (simp [*]; done)), H', ⟨by first | omega | exact Nat.le_refl _⟩, ⟨by repeat (first | (with_reducible first | exact HB.out | apply below_alloc | apply pw_below_drewN | apply below_drew1) | exact HB.out)⟩⟩
      · rw [if_neg c12] at H
        exact absurd H (by rw [HRT.out]; exact hourglasslaw05_CodeJoins.j0_no _ _ _ _)
    · rw [if_neg c8] at H
      exact absurd H (by rw [HRT.out]; exact hourglasslaw05_CodeJoins.j0_no _ _ _ _)
  case rest =>
    clear HC5
    try clear c1
    try clear p2
    try clear c3
    try clear c8
    try clear c8b0
    try clear c8b1
    try clear c10
    try clear c12
    try clear c12b0
    try clear c12b1
    obtain ⟨kq, x34_4, rfl, HA, HJ4, HB⟩ := hcut
    cases kq with
    | zero => exact absurd HA.out (by simp [hourglasslaw05_CodeJoins.j0])
    | succ kj4 =>
      have H := HA.out
      clear HA
      simp only [hourglasslaw05_CodeJoins.j0] at H
      by_cases c26 : x34_4 = true
      · subst c26
        have H1 : (some false) = some r := by rw [if_pos rfl] at H; exact H
        clear H
        have H := H1
        clear H1
        exact absurd (Option.some.inj H) (by rw [HRT.out]; decide)
      · replace c26 := Bool.eq_false_iff.mpr c26
        subst c26
        have H1 : ((code_Join.f 0 a0).bind fun t117 => ((code_Clean.f a0).bind fun t118 => (if t117 = t118 then ((code_Join.f a0 1).bind fun t119 => (if t119 = 1 then ((code_Clean.f a0).bind fun t120 => (if t110 = t120 then ((hourglasslaw05_awake.f).bind fun t121 => (some t121)) else ((code_Clean.f a1).bind fun t122 => (if t110 = t122 then ((hourglasslaw05_awake.f).bind fun t123 => (some t123)) else (some false))))) else (some false))) else (some false)))) = some r := by rw [if_neg (show ¬ (false = true) by decide)] at H; exact H
        clear H
        have H := H1
        clear H1
        replace H := Option.bind_eq_some_iff.mp H
        obtain ⟨t117, A270, H⟩ := H
        replace H : ((code_Clean.f a0).bind fun t118 => (if t117 = t118 then ((code_Join.f a0 1).bind fun t119 => (if t119 = 1 then ((code_Clean.f a0).bind fun t120 => (if t110 = t120 then ((hourglasslaw05_awake.f).bind fun t121 => (some t121)) else ((code_Clean.f a1).bind fun t122 => (if t110 = t122 then ((hourglasslaw05_awake.f).bind fun t123 => (some t123)) else (some false))))) else (some false))) else (some false))) = some r := H
        have A27 := Aside0.mk A270
        clear A270
        replace H := Option.bind_eq_some_iff.mp H
        obtain ⟨t118, A280, H⟩ := H
        replace H : (if t117 = t118 then ((code_Join.f a0 1).bind fun t119 => (if t119 = 1 then ((code_Clean.f a0).bind fun t120 => (if t110 = t120 then ((hourglasslaw05_awake.f).bind fun t121 => (some t121)) else ((code_Clean.f a1).bind fun t122 => (if t110 = t122 then ((hourglasslaw05_awake.f).bind fun t123 => (some t123)) else (some false))))) else (some false))) else (some false)) = some r := H
        have A28 := Aside0.mk A280
        clear A280
        by_cases c29 : t117 = t118
        · rw [if_pos c29] at H
          have c29b0 : (t117 == t118) = true := beq_iff_eq.mpr c29
          have c29b1 : (t117 != t118) = false := bne_eq_false_iff_eq.mpr c29
          clear c29
          replace H := Option.bind_eq_some_iff.mp H
          obtain ⟨t119, A300, H⟩ := H
          replace H : (if t119 = 1 then ((code_Clean.f a0).bind fun t120 => (if t110 = t120 then ((hourglasslaw05_awake.f).bind fun t121 => (some t121)) else ((code_Clean.f a1).bind fun t122 => (if t110 = t122 then ((hourglasslaw05_awake.f).bind fun t123 => (some t123)) else (some false))))) else (some false)) = some r := H
          have A30 := Aside0.mk A300
          clear A300
          by_cases c31 : t119 = 1
          · rw [if_pos c31] at H
            have c31b0 : (t119 == 1) = true := beq_iff_eq.mpr c31
            have c31b1 : (t119 != 1) = false := bne_eq_false_iff_eq.mpr c31
            clear c31
            replace H := Option.bind_eq_some_iff.mp H
            obtain ⟨t120, A320, H⟩ := H
            replace H : (if t110 = t120 then ((hourglasslaw05_awake.f).bind fun t121 => (some t121)) else ((code_Clean.f a1).bind fun t122 => (if t110 = t122 then ((hourglasslaw05_awake.f).bind fun t123 => (some t123)) else (some false)))) = some r := H
            have A32 := Aside0.mk A320
            clear A320
            by_cases c33 : t110 = t120
            · rw [if_pos c33] at H
              have c33b0 : (t110 == t120) = true := beq_iff_eq.mpr c33
              have c33b1 : (t110 != t120) = false := bne_eq_false_iff_eq.mpr c33
              clear c33
              replace H := Option.bind_eq_some_iff.mp H
              obtain ⟨t121, A340, H⟩ := H
              replace H : (some t121) = some r := H
              have A34 := Aside0.mk A340
              clear A340
              first
                | exact absurd (Option.some.inj H) (by rw [HRT.out]; decide)
                | (obtain rfl := Option.some.inj H
                   go_wp2_with (first | ((with_reducible refine gate_callee (f := 37) rfl ?_); refine goesL_ (some 36) rfl rfl Try.func37 (by kernel_rfl) rfl #[.int .i64 0, .int .i64 a0] rfl (by (try simp only [List.map_toArray, List.map_cons, List.map_nil]); first | done | rfl | (simp only [List.length_drop, List.length_take]; rfl)) ?_; (with_reducible refine (code_Join.calls 0 a0 t117 _ A27.out).mono ?_); rintro e w35 ⟨rfl, hb⟩; refine ⟨_, rfl, ?_⟩; have n0_ := Aside0.mk (below_step (by repeat (first | (with_reducible first | exact HB.out | apply below_alloc | apply pw_below_drewN | apply below_drew1) | exact HB.out)) hb); clear HB; have HB := n0_; clear n0_; (try clear hb); (try clear hb2); (try clear hk); (try clear hi)) | ((with_reducible refine gate_callee (f := 38) rfl ?_); refine goesL_ (some 38) rfl rfl Try.func38 (by kernel_rfl) rfl #[.int .i64 a0] rfl (by (try simp only [List.map_toArray, List.map_cons, List.map_nil]); first | done | rfl | (simp only [List.length_drop, List.length_take]; rfl)) ?_; (with_reducible refine (code_Clean.calls a0 t118 _ A28.out).mono ?_); rintro e w36 ⟨rfl, hb⟩; refine ⟨_, rfl, ?_⟩; have n0_ := Aside0.mk (below_step (by repeat (first | (with_reducible first | exact HB.out | apply below_alloc | apply pw_below_drewN | apply below_drew1) | exact HB.out)) hb); clear HB; have HB := n0_; clear n0_; (try clear hb); (try clear hb2); (try clear hk); (try clear hi)) | (go_at_call 37; (with_reducible refine (code_Join.calls a0 1 t119 _ A30.out).mono ?_); rintro e w37 ⟨rfl, hb⟩; have n0_ := Aside0.mk (below_step (by repeat (first | (with_reducible first | exact HB.out | apply below_alloc | apply pw_below_drewN | apply below_drew1) | exact HB.out)) hb); clear HB; have HB := n0_; clear n0_; (try clear hb); (try clear hb2); (try clear hk); (try clear hi)) | (go_at_call 38; (with_reducible refine (code_Clean.calls a0 t120 _ A32.out).mono ?_); rintro e w38 ⟨rfl, hb⟩; have n0_ := Aside0.mk (below_step (by repeat (first | (with_reducible first | exact HB.out | apply below_alloc | apply pw_below_drewN | apply below_drew1) | exact HB.out)) hb); clear HB; have HB := n0_; clear n0_; (try clear hb); (try clear hb2); (try clear hk); (try clear hi)) | (go_at_call 39; (with_reducible refine (hourglasslaw05_awake.calls  t121 _ A34.out).mono ?_); rintro e w39 ⟨rfl, hb⟩; have n0_ := Aside0.mk (below_step (by repeat (first | (with_reducible first | exact HB.out | apply below_alloc | apply pw_below_drewN | apply below_drew1) | exact HB.out)) hb); clear HB; have HB := n0_; clear n0_; (try clear hb); (try clear hb2); (try clear hk); (try clear hi)))
                   go_ret
                   exact ⟨by first | rfl | (simp [errW_none, errW_some] <;> rfl) | (simp [*, errW_none, errW_some] <;> rfl), by repeat (first | (with_reducible first | exact HB.out | apply below_alloc | apply pw_below_drewN | apply below_drew1) | exact HB.out)⟩)
            · rw [if_neg c33] at H
              have c33b0 : (t110 == t120) = false := beq_eq_false_iff_ne.mpr c33
              have c33b1 : (t110 != t120) = true := bne_iff_ne.mpr c33
              replace H := Option.bind_eq_some_iff.mp H
              obtain ⟨t122, A400, H⟩ := H
              replace H : (if t110 = t122 then ((hourglasslaw05_awake.f).bind fun t123 => (some t123)) else (some false)) = some r := H
              have A40 := Aside0.mk A400
              clear A400
              by_cases c41 : t110 = t122
              · rw [if_pos c41] at H
                have c41b0 : (t110 == t122) = true := beq_iff_eq.mpr c41
                have c41b1 : (t110 != t122) = false := bne_eq_false_iff_eq.mpr c41
                clear c41
                replace H := Option.bind_eq_some_iff.mp H
                obtain ⟨t123, A420, H⟩ := H
                replace H : (some t123) = some r := H
                have A42 := Aside0.mk A420
                clear A420
                first
                  | exact absurd (Option.some.inj H) (by rw [HRT.out]; decide)
                  | (obtain rfl := Option.some.inj H
                     go_wp2_with (first | ((with_reducible refine gate_callee (f := 37) rfl ?_); refine goesL_ (some 36) rfl rfl Try.func37 (by kernel_rfl) rfl #[.int .i64 0, .int .i64 a0] rfl (by (try simp only [List.map_toArray, List.map_cons, List.map_nil]); first | done | rfl | (simp only [List.length_drop, List.length_take]; rfl)) ?_; (with_reducible refine (code_Join.calls 0 a0 t117 _ A27.out).mono ?_); rintro e w43 ⟨rfl, hb⟩; refine ⟨_, rfl, ?_⟩; have n0_ := Aside0.mk (below_step (by repeat (first | (with_reducible first | exact HB.out | apply below_alloc | apply pw_below_drewN | apply below_drew1) | exact HB.out)) hb); clear HB; have HB := n0_; clear n0_; (try clear hb); (try clear hb2); (try clear hk); (try clear hi)) | ((with_reducible refine gate_callee (f := 38) rfl ?_); refine goesL_ (some 38) rfl rfl Try.func38 (by kernel_rfl) rfl #[.int .i64 a0] rfl (by (try simp only [List.map_toArray, List.map_cons, List.map_nil]); first | done | rfl | (simp only [List.length_drop, List.length_take]; rfl)) ?_; (with_reducible refine (code_Clean.calls a0 t118 _ A28.out).mono ?_); rintro e w44 ⟨rfl, hb⟩; refine ⟨_, rfl, ?_⟩; have n0_ := Aside0.mk (below_step (by repeat (first | (with_reducible first | exact HB.out | apply below_alloc | apply pw_below_drewN | apply below_drew1) | exact HB.out)) hb); clear HB; have HB := n0_; clear n0_; (try clear hb); (try clear hb2); (try clear hk); (try clear hi)) | (go_at_call 37; (with_reducible refine (code_Join.calls a0 1 t119 _ A30.out).mono ?_); rintro e w45 ⟨rfl, hb⟩; have n0_ := Aside0.mk (below_step (by repeat (first | (with_reducible first | exact HB.out | apply below_alloc | apply pw_below_drewN | apply below_drew1) | exact HB.out)) hb); clear HB; have HB := n0_; clear n0_; (try clear hb); (try clear hb2); (try clear hk); (try clear hi)) | (go_at_call 38; (with_reducible refine (code_Clean.calls a0 t120 _ A32.out).mono ?_); rintro e w46 ⟨rfl, hb⟩; have n0_ := Aside0.mk (below_step (by repeat (first | (with_reducible first | exact HB.out | apply below_alloc | apply pw_below_drewN | apply below_drew1) | exact HB.out)) hb); clear HB; have HB := n0_; clear n0_; (try clear hb); (try clear hb2); (try clear hk); (try clear hi)) | (go_at_call 38; (with_reducible refine (code_Clean.calls a1 t122 _ A40.out).mono ?_); rintro e w47 ⟨rfl, hb⟩; have n0_ := Aside0.mk (below_step (by repeat (first | (with_reducible first | exact HB.out | apply below_alloc | apply pw_below_drewN | apply below_drew1) | exact HB.out)) hb); clear HB; have HB := n0_; clear n0_; (try clear hb); (try clear hb2); (try clear hk); (try clear hi)) | (go_at_call 39; (with_reducible refine (hourglasslaw05_awake.calls  t123 _ A42.out).mono ?_); rintro e w48 ⟨rfl, hb⟩; have n0_ := Aside0.mk (below_step (by repeat (first | (with_reducible first | exact HB.out | apply below_alloc | apply pw_below_drewN | apply below_drew1) | exact HB.out)) hb); clear HB; have HB := n0_; clear n0_; (try clear hb); (try clear hb2); (try clear hk); (try clear hi)))
                     go_ret
                     exact ⟨by first | rfl | (simp [errW_none, errW_some] <;> rfl) | (simp [*, errW_none, errW_some] <;> rfl), by repeat (first | (with_reducible first | exact HB.out | apply below_alloc | apply pw_below_drewN | apply below_drew1) | exact HB.out)⟩)
              · rw [if_neg c41] at H
                have c41b0 : (t110 == t122) = false := beq_eq_false_iff_ne.mpr c41
                have c41b1 : (t110 != t122) = true := bne_iff_ne.mpr c41
                exact absurd (Option.some.inj H) (by rw [HRT.out]; decide)
          · rw [if_neg c31] at H
            have c31b0 : (t119 == 1) = false := beq_eq_false_iff_ne.mpr c31
            have c31b1 : (t119 != 1) = true := bne_iff_ne.mpr c31
            exact absurd (Option.some.inj H) (by rw [HRT.out]; decide)
        · rw [if_neg c29] at H
          have c29b0 : (t117 == t118) = false := beq_eq_false_iff_ne.mpr c29
          have c29b1 : (t117 != t118) = true := bne_iff_ne.mpr c29
          exact absurd (Option.some.inj H) (by rw [HRT.out]; decide)
/-- THE ONE PURE STATEMENT of hourglasslaw05_CodeJoins: yours. -/
def hourglasslaw05_CodeJoins.Pure : Prop := ∀ (a0 : Int) (a1 : Int) (a2 : Int), (Lit.int .i64 a0).wf = true → (Lit.int .i64 a1).wf = true → (Lit.int .i64 a2).wf = true → ∃ k, hourglasslaw05_CodeJoins.f k a0 a1 a2 = some true
theorem hourglasslaw05_CodeJoins.walk (P : hourglasslaw05_CodeJoins.Pure) (a0 : Int) (a1 : Int) (a2 : Int) (w : World) (w0 : (Lit.int .i64 a0).wf = true) (w1 : (Lit.int .i64 a1).wf = true) (w2 : (Lit.int .i64 a2).wf = true) :
    Calls Try.prog 10 #[.int .i64 a0, .int .i64 a1, .int .i64 a2] w fun e w' => e = .returned (.bool true) ∧ Below w.heap.size w w' := by
  obtain ⟨k, h⟩ := P a0 a1 a2 w0 w1 w2
  refine (hourglasslaw05_CodeJoins.calls k a0 a1 a2 true w h rfl).mono ?_
  rintro e w' ⟨rfl, hd⟩
  exact ⟨rfl, hd⟩

end Go.Proofs.Ytfaoeafmgigpcaa.FCodeJoins
