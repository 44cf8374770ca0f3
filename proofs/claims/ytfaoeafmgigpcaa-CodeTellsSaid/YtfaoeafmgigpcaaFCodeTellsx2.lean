/- The functions that CodeTells reaches, as Lean functions, and what the Go code comes to: the same answers. No condition but that they answer. -/
import Derived.Test.YtfaoeafmgigpcaaFCodeTellsx0
import Derived.Test.YtfaoeafmgigpcaaFCodeTellsx1
namespace Go.Proofs.Ytfaoeafmgigpcaa.FCodeTells
open Go.RowKit Go.Proofs.YtfaoeafmgigpcaaW.PrintWords Go.Proofs.YtfaoeafmgigpcaaW.PrintLast Go.Proofs.YtfaoeafmgigpcaaW.PrintMore
attribute [local go_sem] max2_int min2_int max_two min_two max_three min_three max_four min_four   -- for this text's walks alone
set_option linter.unusedVariables false
set_option linter.unusedSimpArgs false

/-! ### hourglassref05_Of: function 50 -/
def hourglassref05_Of.j0 : Nat → Int → Bool → Option (Int)
  | 0, _, _ => none
  | k + 1, x3, x10 => if x10 = true then (some 14) else (if x3 = 2 then (some 3) else (if x3 = 9 then (some 3) else (some 13)))
def hourglassref05_Of.f (k : Nat) (a0 : Int) : Option (Int) := if a0 = 0 then (some 0) else (if a0 = 11 then (some 4) else (if a0 = 6 then (some 8) else (if a0 = 7 then (hourglassref05_Of.j0 k a0 (a0 == 7)) else (hourglassref05_Of.j0 k a0 (a0 == 1)))))
theorem hourglassref05_Of.mono_l : ∀ k, (∀ y0 y1, LeO (hourglassref05_Of.j0 k y0 y1) (hourglassref05_Of.j0 (k + 1) y0 y1))
  | 0 => fun _ _ r h => by simp [hourglassref05_Of.j0] at h
  | k + 1 => by
    have ih0 := hourglassref05_Of.mono_l k
    · intro y0 y1
      unfold hourglassref05_Of.j0
      repeat' first
      | (with_reducible exact ih0 _ _)
      | (with_reducible exact LeO.refl _)
      | (with_reducible exact LeO.none _)
      | (with_reducible refine LeO.ite ?_ ?_)
      | (with_reducible refine LeO.bind ?_ (fun _ => ?_))
      | exact ih0 _ _
      | exact LeO.none _
      | refine LeO.ite ?_ ?_
      | refine LeO.bind ?_ (fun _ => ?_)
theorem hourglassref05_Of.mono : ∀ a0 k, LeO (hourglassref05_Of.f k a0) (hourglassref05_Of.f (k + 1) a0) := by
  intro a0 k
  have ih0 := hourglassref05_Of.mono_l k
  unfold hourglassref05_Of.f
  repeat' first
      | (with_reducible exact ih0 _ _)
      | (with_reducible exact LeO.refl _)
      | (with_reducible exact LeO.none _)
      | (with_reducible refine LeO.ite ?_ ?_)
      | (with_reducible refine LeO.bind ?_ (fun _ => ?_))
      | exact ih0 _ _
      | exact LeO.none _
      | refine LeO.ite ?_ ?_
      | refine LeO.bind ?_ (fun _ => ?_)
set_option maxHeartbeats 40000000 in
set_option maxRecDepth 100000 in
theorem hourglassref05_Of.calls (k : Nat) (a0 : Int) (r : Int) (w : World) (h : hourglassref05_Of.f k a0 = some r) :
    Calls Try.prog 50 #[.int .i64 a0] w fun e w' => e = .returned (.int .i64 r) ∧ Drawn0 w w' := by
  have H : (if a0 = 0 then (some 0) else (if a0 = 11 then (some 4) else (if a0 = 6 then (some 8) else (if a0 = 7 then (hourglassref05_Of.j0 k a0 (a0 == 7)) else (hourglassref05_Of.j0 k a0 (a0 == 1)))))) = some r := h
  clear h
  by_cases c2 : a0 = 0
  · rw [if_pos c2] at H
    have c2b0 : (a0 == 0) = true := beq_iff_eq.mpr c2
    have c2b1 : (a0 != 0) = false := bne_eq_false_iff_eq.mpr c2
    clear c2
    obtain rfl := Option.some.inj H
    go_enter Try.func50, Try.ntmps50
    go_wp2
    go_ret
    exact ⟨by first | rfl | (simp; done) | (simp [*]; done), by repeat (first | exact Drawn0.refl _ | apply Drawn0.step)⟩
  · rw [if_neg c2] at H
    have c2b0 : (a0 == 0) = false := beq_eq_false_iff_ne.mpr c2
    have c2b1 : (a0 != 0) = true := bne_iff_ne.mpr c2
    by_cases c3 : a0 = 11
    · rw [if_pos c3] at H
      have c3b0 : (a0 == 11) = true := beq_iff_eq.mpr c3
      have c3b1 : (a0 != 11) = false := bne_eq_false_iff_eq.mpr c3
      clear c3
      obtain rfl := Option.some.inj H
      go_enter Try.func50, Try.ntmps50
      go_wp2
      go_ret
      exact ⟨by first | rfl | (simp; done) | (simp [*]; done), by repeat (first | exact Drawn0.refl _ | apply Drawn0.step)⟩
    · rw [if_neg c3] at H
      have c3b0 : (a0 == 11) = false := beq_eq_false_iff_ne.mpr c3
      have c3b1 : (a0 != 11) = true := bne_iff_ne.mpr c3
      by_cases c4 : a0 = 6
      · rw [if_pos c4] at H
        have c4b0 : (a0 == 6) = true := beq_iff_eq.mpr c4
        have c4b1 : (a0 != 6) = false := bne_eq_false_iff_eq.mpr c4
        clear c4
        obtain rfl := Option.some.inj H
        go_enter Try.func50, Try.ntmps50
        go_wp2
        go_ret
        exact ⟨by first | rfl | (simp; done) | (simp [*]; done), by repeat (first | exact Drawn0.refl _ | apply Drawn0.step)⟩
      · rw [if_neg c4] at H
        have c4b0 : (a0 == 6) = false := beq_eq_false_iff_ne.mpr c4
        have c4b1 : (a0 != 6) = true := bne_iff_ne.mpr c4
        have HC5 := Aside0.mk H
        clear H
        go_enter Try.func50, Try.ntmps50
        go_upto_if 10 with (fail)
        go_cut [10] (fun v10 wc => ∃ (kq : Nat) (x10_4 : Bool), v10 = .bool x10_4 ∧ Aside0 (hourglassref05_Of.j0 kq a0 x10_4 = some r) ∧ Aside0 (kq ≤ k) ∧ Drawn0 w wc)
        case first =>
          have H := HC5.out
          clear HC5
          by_cases c6 : a0 = 7
          · rw [if_pos c6] at H
            have c6b0 : (a0 == 7) = true := beq_iff_eq.mpr c6
            have c6b1 : (a0 != 7) = false := bne_eq_false_iff_eq.mpr c6
            clear c6
            (first | rw [c6b0] | (simp only [i64_w, i32_w]; rw [c6b0]) | skip)
            have H' := Aside0.mk H
            clear H
            go_wp2
            go_meet
            case rel => exact ⟨_, ((a0 == 7)), (by first | rfl | (simp; done) | (simp [*]; done)), H', ⟨by first | omega | exact Nat.le_refl _⟩, by repeat (first | exact Drawn0.refl _ | apply Drawn0.step)⟩
          · rw [if_neg c6] at H
            have c6b0 : (a0 == 7) = false := beq_eq_false_iff_ne.mpr c6
            have c6b1 : (a0 != 7) = true := bne_iff_ne.mpr c6
            (first | rw [c6b0] | (simp only [i64_w, i32_w]; rw [c6b0]) | skip)
            have H' := Aside0.mk H
            clear H
            go_wp2
            go_meet
            case rel => exact ⟨_, ((a0 == 1)), (by first | rfl | (simp; done) | (simp [*]; done)), H', ⟨by first | omega | exact Nat.le_refl _⟩, by repeat (first | exact Drawn0.refl _ | apply Drawn0.step)⟩
        case rest =>
          clear HC5
          try clear c2
          try clear c2b0
          try clear c2b1
          try clear p2
          try clear c3
          try clear c3b0
          try clear c3b1
          try clear c4
          try clear c4b0
          try clear c4b1
          try clear c5
          try clear c6
          try clear c6b0
          try clear c6b1
          obtain ⟨kq, x10_4, rfl, HA, HJ4, ⟨mc4, rfl⟩⟩ := hcut
          cases kq with
          | zero => exact absurd HA.out (by simp [hourglassref05_Of.j0])
          | succ kj4 =>
            have H := HA.out
            clear HA
            simp only [hourglassref05_Of.j0] at H
            by_cases c7 : x10_4 = true
            · subst c7
              have H1 : (some 14) = some r := by rw [if_pos rfl] at H; exact H
              clear H
              have H := H1
              clear H1
              obtain rfl := Option.some.inj H
              go_wp2
              go_ret
              exact ⟨by first | rfl | (simp; done) | (simp [*]; done), by repeat (first | exact Drawn0.refl _ | apply Drawn0.step)⟩
            · replace c7 := Bool.eq_false_iff.mpr c7
              subst c7
              have H1 : (if a0 = 2 then (some 3) else (if a0 = 9 then (some 3) else (some 13))) = some r := by rw [if_neg (show ¬ (false = true) by decide)] at H; exact H
              clear H
              have H := H1
              clear H1
              by_cases c8 : a0 = 2
              · rw [if_pos c8] at H
                have c8b0 : (a0 == 2) = true := beq_iff_eq.mpr c8
                have c8b1 : (a0 != 2) = false := bne_eq_false_iff_eq.mpr c8
                clear c8
                obtain rfl := Option.some.inj H
                go_wp2
                go_ret
                exact ⟨by first | rfl | (simp; done) | (simp [*]; done), by repeat (first | exact Drawn0.refl _ | apply Drawn0.step)⟩
              · rw [if_neg c8] at H
                have c8b0 : (a0 == 2) = false := beq_eq_false_iff_ne.mpr c8
                have c8b1 : (a0 != 2) = true := bne_iff_ne.mpr c8
                by_cases c9 : a0 = 9
                · rw [if_pos c9] at H
                  have c9b0 : (a0 == 9) = true := beq_iff_eq.mpr c9
                  have c9b1 : (a0 != 9) = false := bne_eq_false_iff_eq.mpr c9
                  clear c9
                  obtain rfl := Option.some.inj H
                  go_wp2
                  go_ret
                  exact ⟨by first | rfl | (simp; done) | (simp [*]; done), by repeat (first | exact Drawn0.refl _ | apply Drawn0.step)⟩
                · rw [if_neg c9] at H
                  have c9b0 : (a0 == 9) = false := beq_eq_false_iff_ne.mpr c9
                  have c9b1 : (a0 != 9) = true := bne_iff_ne.mpr c9
                  obtain rfl := Option.some.inj H
                  go_wp2
                  go_ret
                  exact ⟨by first | rfl | (simp; done) | (simp [*]; done), by repeat (first | exact Drawn0.refl _ | apply Drawn0.step)⟩

/-! ### hourglasslaw05_CodeTells: function 12 -/
def hourglasslaw05_CodeTells.j0 : Nat → Int → Int → Int → Int → Int → Int → Bool → Bool → Option (Bool)
  | 0, _, _, _, _, _, _, _, _ => none
  | k + 1, x0, x1, x3, x9, x10, x11, x12, x52 => if x52 = true then (some false) else (if x9 = x11 then (if (x12 == (x10 == 0)) = true then (if x12 = true then ((code_Join.f x0 x1).bind fun t137 => ((hourglassref05_Join.f k x0 x1).bind fun t138 => (if t137 = t138 then ((code_Of.f k (wrap64 (x3))).bind fun t139 => ((hourglassref05_Of.f k (wrap64 (x3))).bind fun t140 => (if t139 = t140 then ((hourglasslaw05_awake.f).bind fun t141 => (some t141)) else (some false)))) else (some false)))) else (if x10 = 10 then ((code_Join.f x0 x1).bind fun t142 => ((hourglassref05_Join.f k x0 x1).bind fun t143 => (if t142 = t143 then ((code_Of.f k (wrap64 (x3))).bind fun t144 => ((hourglassref05_Of.f k (wrap64 (x3))).bind fun t145 => (if t144 = t145 then ((hourglasslaw05_awake.f).bind fun t146 => (some t146)) else (some false)))) else (some false)))) else (some false))) else (some false)) else (some false))
def hourglasslaw05_CodeTells.f (k : Nat) (a0 : Int) (a1 : Int) (a2 : ByteArray) (a3 : Int) : Option (Bool) := (code_Parse.f a2).bind fun bt126 => ((hourglassref05_Parse.f k a2).bind fun bt128 => ((code_Right.f a0).bind fun t130 => ((hourglassref05_Right.f a0).bind fun t131 => (if (t130 != t131) = true then (hourglasslaw05_CodeTells.j0 k a0 a1 a3 bt126.1 bt126.2 bt128.1 bt128.2 true) else ((code_Clean.f a0).bind fun t132 => ((hourglassref05_Clean.f a0).bind fun t133 => (if t132 = t133 then ((code_Text.f a0).bind fun t134 => ((hourglassref05_Text.f a0).bind fun t135 => (if t134.toList = t135.toList then ((code_Again.f a0).bind fun t136 => (if a0 = 14 then (hourglasslaw05_CodeTells.j0 k a0 a1 a3 bt126.1 bt126.2 bt128.1 bt128.2 (t136 != true)) else (hourglasslaw05_CodeTells.j0 k a0 a1 a3 bt126.1 bt126.2 bt128.1 bt128.2 (t136 != (a0 == 8))))) else (hourglasslaw05_CodeTells.j0 k a0 a1 a3 bt126.1 bt126.2 bt128.1 bt128.2 true)))) else (hourglasslaw05_CodeTells.j0 k a0 a1 a3 bt126.1 bt126.2 bt128.1 bt128.2 true))))))))
theorem hourglasslaw05_CodeTells.mono_l : ∀ k, (∀ y0 y1 y2 y3 y4 y5 y6 y7, LeO (hourglasslaw05_CodeTells.j0 k y0 y1 y2 y3 y4 y5 y6 y7) (hourglasslaw05_CodeTells.j0 (k + 1) y0 y1 y2 y3 y4 y5 y6 y7))
  | 0 => fun _ _ _ _ _ _ _ _ r h => by simp [hourglasslaw05_CodeTells.j0] at h
  | k + 1 => by
    have ih0 := hourglasslaw05_CodeTells.mono_l k
    · intro y0 y1 y2 y3 y4 y5 y6 y7
      unfold hourglasslaw05_CodeTells.j0
      repeat' first
      | (with_reducible exact ih0 _ _ _ _ _ _ _ _)
      | (with_reducible exact code_Of.mono _ _)
      | (with_reducible exact hourglassref05_Join.mono _ _ _)
      | (with_reducible exact hourglassref05_Of.mono _ _)
      | (with_reducible exact hourglassref05_Parse.mono _ _)
      | (with_reducible exact LeO.refl _)
      | (with_reducible exact LeO.none _)
      | (with_reducible refine LeO.ite ?_ ?_)
      | (with_reducible refine LeO.bind ?_ (fun _ => ?_))
      | exact ih0 _ _ _ _ _ _ _ _
      | exact code_Of.mono _ _
      | exact hourglassref05_Join.mono _ _ _
      | exact hourglassref05_Of.mono _ _
      | exact hourglassref05_Parse.mono _ _
      | exact LeO.none _
      | refine LeO.ite ?_ ?_
      | refine LeO.bind ?_ (fun _ => ?_)
theorem hourglasslaw05_CodeTells.mono : ∀ a0 a1 a2 a3 k, LeO (hourglasslaw05_CodeTells.f k a0 a1 a2 a3) (hourglasslaw05_CodeTells.f (k + 1) a0 a1 a2 a3) := by
  intro a0 a1 a2 a3 k
  have ih0 := hourglasslaw05_CodeTells.mono_l k
  unfold hourglasslaw05_CodeTells.f
  repeat' first
      | (with_reducible exact ih0 _ _ _ _ _ _ _ _)
      | (with_reducible exact code_Of.mono _ _)
      | (with_reducible exact hourglassref05_Join.mono _ _ _)
      | (with_reducible exact hourglassref05_Of.mono _ _)
      | (with_reducible exact hourglassref05_Parse.mono _ _)
      | (with_reducible exact LeO.refl _)
      | (with_reducible exact LeO.none _)
      | (with_reducible refine LeO.ite ?_ ?_)
      | (with_reducible refine LeO.bind ?_ (fun _ => ?_))
      | exact ih0 _ _ _ _ _ _ _ _
      | exact code_Of.mono _ _
      | exact hourglassref05_Join.mono _ _ _
      | exact hourglassref05_Of.mono _ _
      | exact hourglassref05_Parse.mono _ _
      | exact LeO.none _
      | refine LeO.ite ?_ ?_
      | refine LeO.bind ?_ (fun _ => ?_)
theorem hourglasslaw05_CodeTells.j0_no : ∀ k y0 y1 y2 y3 y4 y5 y6, hourglasslaw05_CodeTells.j0 k y0 y1 y2 y3 y4 y5 y6 true ≠ some true := by
  intro k y0 y1 y2 y3 y4 y5 y6; cases k <;> simp [hourglasslaw05_CodeTells.j0]
set_option maxHeartbeats 40000000 in
set_option maxRecDepth 100000 in
theorem hourglasslaw05_CodeTells.calls (k : Nat) (a0 : Int) (a1 : Int) (a2 : ByteArray) (a3 : Int) (r : Bool) (w : World) (h : hourglasslaw05_CodeTells.f k a0 a1 a2 a3 = some r) (hrT : r = true) :
    Calls Try.prog 12 #[.int .i64 a0, .int .i64 a1, .string a2, .int .i16 a3] w fun e w' => e = .returned (.bool r) ∧ Below w.heap.size w w' := by
  have HRT := Aside0.mk hrT
  clear hrT
  have HB := Aside0.mk (Below.refl w.heap.size w)
  have H : ((code_Parse.f a2).bind fun bt126 => ((hourglassref05_Parse.f k a2).bind fun bt128 => ((code_Right.f a0).bind fun t130 => ((hourglassref05_Right.f a0).bind fun t131 => (if (t130 != t131) = true then (hourglasslaw05_CodeTells.j0 k a0 a1 a3 bt126.1 bt126.2 bt128.1 bt128.2 true) else ((code_Clean.f a0).bind fun t132 => ((hourglassref05_Clean.f a0).bind fun t133 => (if t132 = t133 then ((code_Text.f a0).bind fun t134 => ((hourglassref05_Text.f a0).bind fun t135 => (if t134.toList = t135.toList then ((code_Again.f a0).bind fun t136 => (if a0 = 14 then (hourglasslaw05_CodeTells.j0 k a0 a1 a3 bt126.1 bt126.2 bt128.1 bt128.2 (t136 != true)) else (hourglasslaw05_CodeTells.j0 k a0 a1 a3 bt126.1 bt126.2 bt128.1 bt128.2 (t136 != (a0 == 8))))) else (hourglasslaw05_CodeTells.j0 k a0 a1 a3 bt126.1 bt126.2 bt128.1 bt128.2 true)))) else (hourglasslaw05_CodeTells.j0 k a0 a1 a3 bt126.1 bt126.2 bt128.1 bt128.2 true))))))))) = some r := h
  clear h
  replace H := Option.bind_eq_some_iff.mp H
  obtain ⟨⟨t126, t127⟩, A50, H⟩ := H
  replace H : ((hourglassref05_Parse.f k a2).bind fun bt128 => ((code_Right.f a0).bind fun t130 => ((hourglassref05_Right.f a0).bind fun t131 => (if (t130 != t131) = true then (hourglasslaw05_CodeTells.j0 k a0 a1 a3 t126 t127 bt128.1 bt128.2 true) else ((code_Clean.f a0).bind fun t132 => ((hourglassref05_Clean.f a0).bind fun t133 => (if t132 = t133 then ((code_Text.f a0).bind fun t134 => ((hourglassref05_Text.f a0).bind fun t135 => (if t134.toList = t135.toList then ((code_Again.f a0).bind fun t136 => (if a0 = 14 then (hourglasslaw05_CodeTells.j0 k a0 a1 a3 t126 t127 bt128.1 bt128.2 (t136 != true)) else (hourglasslaw05_CodeTells.j0 k a0 a1 a3 t126 t127 bt128.1 bt128.2 (t136 != (a0 == 8))))) else (hourglasslaw05_CodeTells.j0 k a0 a1 a3 t126 t127 bt128.1 bt128.2 true)))) else (hourglasslaw05_CodeTells.j0 k a0 a1 a3 t126 t127 bt128.1 bt128.2 true)))))))) = some r := H
  have A5 := Aside0.mk A50
  clear A50
  replace H := Option.bind_eq_some_iff.mp H
  obtain ⟨⟨t128, t129⟩, A60, H⟩ := H
  replace H : ((code_Right.f a0).bind fun t130 => ((hourglassref05_Right.f a0).bind fun t131 => (if (t130 != t131) = true then (hourglasslaw05_CodeTells.j0 k a0 a1 a3 t126 t127 t128 t129 true) else ((code_Clean.f a0).bind fun t132 => ((hourglassref05_Clean.f a0).bind fun t133 => (if t132 = t133 then ((code_Text.f a0).bind fun t134 => ((hourglassref05_Text.f a0).bind fun t135 => (if t134.toList = t135.toList then ((code_Again.f a0).bind fun t136 => (if a0 = 14 then (hourglasslaw05_CodeTells.j0 k a0 a1 a3 t126 t127 t128 t129 (t136 != true)) else (hourglasslaw05_CodeTells.j0 k a0 a1 a3 t126 t127 t128 t129 (t136 != (a0 == 8))))) else (hourglasslaw05_CodeTells.j0 k a0 a1 a3 t126 t127 t128 t129 true)))) else (hourglasslaw05_CodeTells.j0 k a0 a1 a3 t126 t127 t128 t129 true))))))) = some r := H
  have A6 := Aside0.mk A60
  clear A60
  have HC7 := Aside0.mk H
  clear H
  go_enter Try.func12, Try.ntmps12
  go_upto_region 3 with (first | ((with_reducible refine gate_callee (f := 40) rfl ?_); refine goesL_ (some 15) rfl rfl Try.func40 (by kernel_rfl) rfl #[.string a2] rfl (by (try simp only [List.map_toArray, List.map_cons, List.map_nil]); first | done | rfl | (simp only [List.length_drop, List.length_take]; rfl)) ?_; (with_reducible refine (code_Parse.calls a2 t126 t127 _ A5.out).mono ?_); rintro e w8 ⟨rfl, hb⟩; refine ⟨_, rfl, ?_⟩; have n0_ := Aside0.mk (below_step (by repeat (first | (with_reducible first | exact HB.out | apply below_alloc | apply pw_below_drewN | apply below_drew1) | exact HB.out)) hb); clear HB; have HB := n0_; clear n0_; (try clear hb); (try clear hb2); (try clear hk); (try clear hi)) | ((with_reducible refine gate_callee (f := 42) rfl ?_); refine goesL_ (some 20) rfl rfl Try.func42 (by kernel_rfl) rfl #[.string a2] rfl (by (try simp only [List.map_toArray, List.map_cons, List.map_nil]); first | done | rfl | (simp only [List.length_drop, List.length_take]; rfl)) ?_; (with_reducible refine (hourglassref05_Parse.calls k a2 t128 t129 _ A6.out).mono ?_); rintro e w9 ⟨rfl, hb⟩; refine ⟨_, rfl, ?_⟩; have n0_ := Aside0.mk (below_step (by repeat (first | (with_reducible first | exact HB.out | apply below_alloc | apply pw_below_drewN | apply below_drew1) | exact HB.out)) hb); clear HB; have HB := n0_; clear n0_; (try clear hb); (try clear hb2); (try clear hk); (try clear hi)))
  (try simp only [Act.put, List.setIfInBounds_toArray, List.set_cons_zero, List.set_cons_succ])
  go_cut [52] (fun v52 wc => ∃ (kq : Nat) (x52_6 : Bool), v52 = .bool x52_6 ∧ Aside0 (hourglasslaw05_CodeTells.j0 kq a0 a1 a3 t126 t127 t128 t129 x52_6 = some r) ∧ Aside0 (kq ≤ k) ∧ Aside0 (Below w.heap.size w wc))
  case first =>
    have H := HC7.out
    clear HC7
    replace H := Option.bind_eq_some_iff.mp H
    obtain ⟨t130, A100, H⟩ := H
    replace H : ((hourglassref05_Right.f a0).bind fun t131 => (if (t130 != t131) = true then (hourglasslaw05_CodeTells.j0 k a0 a1 a3 t126 t127 t128 t129 true) else ((code_Clean.f a0).bind fun t132 => ((hourglassref05_Clean.f a0).bind fun t133 => (if t132 = t133 then ((code_Text.f a0).bind fun t134 => ((hourglassref05_Text.f a0).bind fun t135 => (if t134.toList = t135.toList then ((code_Again.f a0).bind fun t136 => (if a0 = 14 then (hourglasslaw05_CodeTells.j0 k a0 a1 a3 t126 t127 t128 t129 (t136 != true)) else (hourglasslaw05_CodeTells.j0 k a0 a1 a3 t126 t127 t128 t129 (t136 != (a0 == 8))))) else (hourglasslaw05_CodeTells.j0 k a0 a1 a3 t126 t127 t128 t129 true)))) else (hourglasslaw05_CodeTells.j0 k a0 a1 a3 t126 t127 t128 t129 true)))))) = some r := H
    have A10 := Aside0.mk A100
    clear A100
    replace H := Option.bind_eq_some_iff.mp H
    obtain ⟨t131, A110, H⟩ := H
    replace H : (if (t130 != t131) = true then (hourglasslaw05_CodeTells.j0 k a0 a1 a3 t126 t127 t128 t129 true) else ((code_Clean.f a0).bind fun t132 => ((hourglassref05_Clean.f a0).bind fun t133 => (if t132 = t133 then ((code_Text.f a0).bind fun t134 => ((hourglassref05_Text.f a0).bind fun t135 => (if t134.toList = t135.toList then ((code_Again.f a0).bind fun t136 => (if a0 = 14 then (hourglasslaw05_CodeTells.j0 k a0 a1 a3 t126 t127 t128 t129 (t136 != true)) else (hourglasslaw05_CodeTells.j0 k a0 a1 a3 t126 t127 t128 t129 (t136 != (a0 == 8))))) else (hourglasslaw05_CodeTells.j0 k a0 a1 a3 t126 t127 t128 t129 true)))) else (hourglasslaw05_CodeTells.j0 k a0 a1 a3 t126 t127 t128 t129 true))))) = some r := H
    have A11 := Aside0.mk A110
    clear A110
    by_cases c12 : (t130 != t131) = true
    · rw [if_pos c12] at H
      exact absurd H (by rw [HRT.out]; exact hourglasslaw05_CodeTells.j0_no _ _ _ _ _ _ _ _)
    · rw [if_neg c12] at H
      have c12b0 : (t130 != t131) = false := by simpa using c12
      (try (have c12b1 : decide (t130 = t131) = true := by simpa using c12))
      (try (have c12b2 : (t130 == t131) = true := by simpa using c12))
      clear c12
      (first | rw [c12b0] | (simp only [i64_w, i32_w]; rw [c12b0]) | skip)
      replace H := Option.bind_eq_some_iff.mp H
      obtain ⟨t132, A140, H⟩ := H
      replace H : ((hourglassref05_Clean.f a0).bind fun t133 => (if t132 = t133 then ((code_Text.f a0).bind fun t134 => ((hourglassref05_Text.f a0).bind fun t135 => (if t134.toList = t135.toList then ((code_Again.f a0).bind fun t136 => (if a0 = 14 then (hourglasslaw05_CodeTells.j0 k a0 a1 a3 t126 t127 t128 t129 (t136 != true)) else (hourglasslaw05_CodeTells.j0 k a0 a1 a3 t126 t127 t128 t129 (t136 != (a0 == 8))))) else (hourglasslaw05_CodeTells.j0 k a0 a1 a3 t126 t127 t128 t129 true)))) else (hourglasslaw05_CodeTells.j0 k a0 a1 a3 t126 t127 t128 t129 true))) = some r := H
      have A14 := Aside0.mk A140
      clear A140
      replace H := Option.bind_eq_some_iff.mp H
      obtain ⟨t133, A150, H⟩ := H
      replace H : (if t132 = t133 then ((code_Text.f a0).bind fun t134 => ((hourglassref05_Text.f a0).bind fun t135 => (if t134.toList = t135.toList then ((code_Again.f a0).bind fun t136 => (if a0 = 14 then (hourglasslaw05_CodeTells.j0 k a0 a1 a3 t126 t127 t128 t129 (t136 != true)) else (hourglasslaw05_CodeTells.j0 k a0 a1 a3 t126 t127 t128 t129 (t136 != (a0 == 8))))) else (hourglasslaw05_CodeTells.j0 k a0 a1 a3 t126 t127 t128 t129 true)))) else (hourglasslaw05_CodeTells.j0 k a0 a1 a3 t126 t127 t128 t129 true)) = some r := H
      have A15 := Aside0.mk A150
      clear A150
      by_cases c16 : t132 = t133
      · rw [if_pos c16] at H
        have c16b0 : (t132 == t133) = true := beq_iff_eq.mpr c16
        have c16b1 : (t132 != t133) = false := bne_eq_false_iff_eq.mpr c16
        clear c16
        replace H := Option.bind_eq_some_iff.mp H
        obtain ⟨t134, A170, H⟩ := H
        replace H : ((hourglassref05_Text.f a0).bind fun t135 => (if t134.toList = t135.toList then ((code_Again.f a0).bind fun t136 => (if a0 = 14 then (hourglasslaw05_CodeTells.j0 k a0 a1 a3 t126 t127 t128 t129 (t136 != true)) else (hourglasslaw05_CodeTells.j0 k a0 a1 a3 t126 t127 t128 t129 (t136 != (a0 == 8))))) else (hourglasslaw05_CodeTells.j0 k a0 a1 a3 t126 t127 t128 t129 true))) = some r := H
        have A17 := Aside0.mk A170
        clear A170
        replace H := Option.bind_eq_some_iff.mp H
        obtain ⟨t135, A180, H⟩ := H
        replace H : (if t134.toList = t135.toList then ((code_Again.f a0).bind fun t136 => (if a0 = 14 then (hourglasslaw05_CodeTells.j0 k a0 a1 a3 t126 t127 t128 t129 (t136 != true)) else (hourglasslaw05_CodeTells.j0 k a0 a1 a3 t126 t127 t128 t129 (t136 != (a0 == 8))))) else (hourglasslaw05_CodeTells.j0 k a0 a1 a3 t126 t127 t128 t129 true)) = some r := H
        have A18 := Aside0.mk A180
        clear A180
        by_cases c19 : t134.toList = t135.toList
        · rw [if_pos c19] at H
          have c19b0 : (t134.toList == t135.toList) = true := beq_iff_eq.mpr c19
          have c19b1 : (t134.toList != t135.toList) = false := bne_eq_false_iff_eq.mpr c19
          clear c19
          replace H := Option.bind_eq_some_iff.mp H
          obtain ⟨t136, A200, H⟩ := H
          replace H : (if a0 = 14 then (hourglasslaw05_CodeTells.j0 k a0 a1 a3 t126 t127 t128 t129 (t136 != true)) else (hourglasslaw05_CodeTells.j0 k a0 a1 a3 t126 t127 t128 t129 (t136 != (a0 == 8)))) = some r := H
          have A20 := Aside0.mk A200
          clear A200
          by_cases c21 : a0 = 14
          · rw [if_pos c21] at H
            have c21b0 : (a0 == 14) = true := beq_iff_eq.mpr c21
            have c21b1 : (a0 != 14) = false := bne_eq_false_iff_eq.mpr c21
            clear c21
            have H' := Aside0.mk H
            clear H
            go_wp2_with (first | ((with_reducible refine gate_callee (f := 43) rfl ?_); refine goesL_ (some 24) rfl rfl Try.func43 (by kernel_rfl) rfl #[.int .i64 a0] rfl (by (try simp only [List.map_toArray, List.map_cons, List.map_nil]); first | done | rfl | (simp only [List.length_drop, List.length_take]; rfl)) ?_; (with_reducible refine (code_Right.calls a0 t130 _ A10.out).mono ?_); rintro e w22 ⟨rfl, hb⟩; refine ⟨_, rfl, ?_⟩; have n0_ := Aside0.mk (below_step (by repeat (first | (with_reducible first | exact HB.out | apply below_alloc | apply pw_below_drewN | apply below_drew1) | exact HB.out)) hb); clear HB; have HB := n0_; clear n0_; (try clear hb); (try clear hb2); (try clear hk); (try clear hi)) | ((with_reducible refine gate_callee (f := 44) rfl ?_); refine goesL_ (some 26) rfl rfl Try.func44 (by kernel_rfl) rfl #[.int .i64 a0] rfl (by (try simp only [List.map_toArray, List.map_cons, List.map_nil]); first | done | rfl | (simp only [List.length_drop, List.length_take]; rfl)) ?_; (with_reducible refine (hourglassref05_Right.calls a0 t131 _ A11.out).mono ?_); rintro e w' ⟨rfl, ⟨nd, rfl⟩⟩; refine ⟨_, rfl, ?_⟩) | (go_at_call 38; (with_reducible refine (code_Clean.calls a0 t132 _ A14.out).mono ?_); rintro e w23 ⟨rfl, hb⟩; have n0_ := Aside0.mk (below_step (by repeat (first | (with_reducible first | exact HB.out | apply below_alloc | apply pw_below_drewN | apply below_drew1) | exact HB.out)) hb); clear HB; have HB := n0_; clear n0_; (try clear hb); (try clear hb2); (try clear hk); (try clear hi)) | (go_at_call 45; (with_reducible refine (hourglassref05_Clean.calls a0 t133 _ A15.out).mono ?_); rintro e w' ⟨rfl, ⟨nd, rfl⟩⟩) | (go_at_call 41; (with_reducible refine (code_Text.calls a0 t134 _ A17.out).mono ?_); rintro e w24 ⟨rfl, hb⟩; have n0_ := Aside0.mk (below_step (by repeat (first | (with_reducible first | exact HB.out | apply below_alloc | apply pw_below_drewN | apply below_drew1) | exact HB.out)) hb); clear HB; have HB := n0_; clear n0_; (try clear hb); (try clear hb2); (try clear hk); (try clear hi)) | (go_at_call 46; (with_reducible refine (hourglassref05_Text.calls a0 t135 _ A18.out).mono ?_); rintro e w25 ⟨rfl, hb⟩; have n0_ := Aside0.mk (below_step (by repeat (first | (with_reducible first | exact HB.out | apply below_alloc | apply pw_below_drewN | apply below_drew1) | exact HB.out)) hb); clear HB; have HB := n0_; clear n0_; (try clear hb); (try clear hb2); (try clear hk); (try clear hi)) | (go_at_call 47; (with_reducible refine (code_Again.calls a0 t136 _ A20.out).mono ?_); rintro e w' ⟨rfl, ⟨nd, rfl⟩⟩))
            go_meet
            case rel => exact ⟨_, ((t136 != true)), (by first | rfl | (simp; done) | (simp [*]; done)), H', ⟨by first | omega | exact Nat.le_refl _⟩, ⟨by repeat (first | (with_reducible first | exact HB.out | apply below_alloc | apply pw_below_drewN | apply below_drew1) | exact HB.out)⟩⟩
          · rw [if_neg c21] at H
            have c21b0 : (a0 == 14) = false := beq_eq_false_iff_ne.mpr c21
            have c21b1 : (a0 != 14) = true := bne_iff_ne.mpr c21
            have H' := Aside0.mk H
            clear H
            go_wp2_with (first | ((with_reducible refine gate_callee (f := 43) rfl ?_); refine goesL_ (some 24) rfl rfl Try.func43 (by kernel_rfl) rfl #[.int .i64 a0] rfl (by (try simp only [List.map_toArray, List.map_cons, List.map_nil]); first | done | rfl | (simp only [List.length_drop, List.length_take]; rfl)) ?_; (with_reducible refine (code_Right.calls a0 t130 _ A10.out).mono ?_); rintro e w26 ⟨rfl, hb⟩; refine ⟨_, rfl, ?_⟩; have n0_ := Aside0.mk (below_step (by repeat (first | (with_reducible first | exact HB.out | apply below_alloc | apply pw_below_drewN | apply below_drew1) | exact HB.out)) hb); clear HB; have HB := n0_; clear n0_; (try clear hb); (try clear hb2); (try clear hk); (try clear hi)) | ((with_reducible refine gate_callee (f := 44) rfl ?_); refine goesL_ (some 26) rfl rfl Try.func44 (by kernel_rfl) rfl #[.int .i64 a0] rfl (by (try simp only [List.map_toArray, List.map_cons, List.map_nil]); first | done | rfl | (simp only [List.length_drop, List.length_take]; rfl)) ?_; (with_reducible refine (hourglassref05_Right.calls a0 t131 _ A11.out).mono ?_); rintro e w' ⟨rfl, ⟨nd, rfl⟩⟩; refine ⟨_, rfl, ?_⟩) | (go_at_call 38; (with_reducible refine (code_Clean.calls a0 t132 _ A14.out).mono ?_); rintro e w27 ⟨rfl, hb⟩; have n0_ := Aside0.mk (below_step (by repeat (first | (with_reducible first | exact HB.out | apply below_alloc | apply pw_below_drewN | apply below_drew1) | exact HB.out)) hb); clear HB; have HB := n0_; clear n0_; (try clear hb); (try clear hb2); (try clear hk); (try clear hi)) | (go_at_call 45; (with_reducible refine (hourglassref05_Clean.calls a0 t133 _ A15.out).mono ?_); rintro e w' ⟨rfl, ⟨nd, rfl⟩⟩) | (go_at_call 41; (with_reducible refine (code_Text.calls a0 t134 _ A17.out).mono ?_); rintro e w28 ⟨rfl, hb⟩; have n0_ := Aside0.mk (below_step (by repeat (first | (with_reducible first | exact HB.out | apply below_alloc | apply pw_below_drewN | apply below_drew1) | exact HB.out)) hb); clear HB; have HB := n0_; clear n0_; (try clear hb); (try clear hb2); (try clear hk); (try clear hi)) | (go_at_call 46; (with_reducible refine (hourglassref05_Text.calls a0 t135 _ A18.out).mono ?_); rintro e w29 ⟨rfl, hb⟩; have n0_ := Aside0.mk (below_step (by repeat (first | (with_reducible first | exact HB.out | apply below_alloc | apply pw_below_drewN | apply below_drew1) | exact HB.out)) hb); clear HB; have HB := n0_; clear n0_; (try clear hb); (try clear hb2); (try clear hk); (try clear hi)) | (go_at_call 47; (with_reducible refine (code_Again.calls a0 t136 _ A20.out).mono ?_); rintro e w' ⟨rfl, ⟨nd, rfl⟩⟩))
            go_meet
            case rel => exact ⟨_, ((t136 != (a0 == 8))), (by first | rfl | (simp; done) | (simp [*]; done)), H', ⟨by first | omega | exact Nat.le_refl _⟩, ⟨by repeat (first | (with_reducible first | exact HB.out | apply below_alloc | apply pw_below_drewN | apply below_drew1) | exact HB.out)⟩⟩
        · rw [if_neg c19] at H
          exact absurd H (by rw [HRT.out]; exact hourglasslaw05_CodeTells.j0_no _ _ _ _ _ _ _ _)
      · rw [if_neg c16] at H
        exact absurd H (by rw [HRT.out]; exact hourglasslaw05_CodeTells.j0_no _ _ _ _ _ _ _ _)
  case rest =>
    clear HC7
    try clear c1
    try clear c2
    try clear p2
    try clear c4
    try clear c12
    try clear c12b0
    try clear c12b1
    try clear c12b2
    try clear c16
    try clear c16b0
    try clear c16b1
    try clear c19
    try clear c19b0
    try clear c19b1
    try clear c21
    try clear c21b0
    try clear c21b1
    obtain ⟨kq, x52_6, rfl, HA, HJ6, HB⟩ := hcut
    cases kq with
    | zero => exact absurd HA.out (by simp [hourglasslaw05_CodeTells.j0])
    | succ kj6 =>
      have H := HA.out
      clear HA
      simp only [hourglasslaw05_CodeTells.j0] at H
      by_cases c36 : x52_6 = true
      · subst c36
        have H1 : (some false) = some r := by rw [if_pos rfl] at H; exact H
        clear H
        have H := H1
        clear H1
        exact absurd (Option.some.inj H) (by rw [HRT.out]; decide)
      · replace c36 := Bool.eq_false_iff.mpr c36
        subst c36
        have H1 : (if t126 = t128 then (if (t129 == (t127 == 0)) = true then (if t129 = true then ((code_Join.f a0 a1).bind fun t137 => ((hourglassref05_Join.f kj6 a0 a1).bind fun t138 => (if t137 = t138 then ((code_Of.f kj6 (wrap64 (a3))).bind fun t139 => ((hourglassref05_Of.f kj6 (wrap64 (a3))).bind fun t140 => (if t139 = t140 then ((hourglasslaw05_awake.f).bind fun t141 => (some t141)) else (some false)))) else (some false)))) else (if t127 = 10 then ((code_Join.f a0 a1).bind fun t142 => ((hourglassref05_Join.f kj6 a0 a1).bind fun t143 => (if t142 = t143 then ((code_Of.f kj6 (wrap64 (a3))).bind fun t144 => ((hourglassref05_Of.f kj6 (wrap64 (a3))).bind fun t145 => (if t144 = t145 then ((hourglasslaw05_awake.f).bind fun t146 => (some t146)) else (some false)))) else (some false)))) else (some false))) else (some false)) else (some false)) = some r := by rw [if_neg (show ¬ (false = true) by decide)] at H; exact H
        clear H
        have H := H1
        clear H1
        by_cases c37 : t126 = t128
        · rw [if_pos c37] at H
          have c37b0 : (t126 == t128) = true := beq_iff_eq.mpr c37
          have c37b1 : (t126 != t128) = false := bne_eq_false_iff_eq.mpr c37
          clear c37
          by_cases c38 : (t129 == (t127 == 0)) = true
          · rw [if_pos c38] at H
            have c38b0 : (t129 == (t127 == 0)) = true := c38
            (try (have c38b1 : decide (t129 = (t127 == 0)) = true := by simpa using c38))
            (try (have c38b2 : (t129 == (t127 == 0)) = true := by simpa using c38))
            clear c38
            by_cases c39 : t129 = true
            · subst c39
              have H1 : ((code_Join.f a0 a1).bind fun t137 => ((hourglassref05_Join.f kj6 a0 a1).bind fun t138 => (if t137 = t138 then ((code_Of.f kj6 (wrap64 (a3))).bind fun t139 => ((hourglassref05_Of.f kj6 (wrap64 (a3))).bind fun t140 => (if t139 = t140 then ((hourglasslaw05_awake.f).bind fun t141 => (some t141)) else (some false)))) else (some false)))) = some r := by rw [if_pos rfl] at H; exact H
              clear H
              have H := H1
              clear H1
              replace H := Option.bind_eq_some_iff.mp H
              obtain ⟨t137, A400, H⟩ := H
              replace H : ((hourglassref05_Join.f kj6 a0 a1).bind fun t138 => (if t137 = t138 then ((code_Of.f kj6 (wrap64 (a3))).bind fun t139 => ((hourglassref05_Of.f kj6 (wrap64 (a3))).bind fun t140 => (if t139 = t140 then ((hourglasslaw05_awake.f).bind fun t141 => (some t141)) else (some false)))) else (some false))) = some r := H
              have A40 := Aside0.mk A400
              clear A400
              replace H := Option.bind_eq_some_iff.mp H
              obtain ⟨t138, A410, H⟩ := H
              replace H : (if t137 = t138 then ((code_Of.f kj6 (wrap64 (a3))).bind fun t139 => ((hourglassref05_Of.f kj6 (wrap64 (a3))).bind fun t140 => (if t139 = t140 then ((hourglasslaw05_awake.f).bind fun t141 => (some t141)) else (some false)))) else (some false)) = some r := H
              have A41 := Aside0.mk A410
              clear A410
              by_cases c42 : t137 = t138
              · rw [if_pos c42] at H
                have c42b0 : (t137 == t138) = true := beq_iff_eq.mpr c42
                have c42b1 : (t137 != t138) = false := bne_eq_false_iff_eq.mpr c42
                clear c42
                replace H := Option.bind_eq_some_iff.mp H
                obtain ⟨t139, A430, H⟩ := H
                replace H : ((hourglassref05_Of.f kj6 (wrap64 (a3))).bind fun t140 => (if t139 = t140 then ((hourglasslaw05_awake.f).bind fun t141 => (some t141)) else (some false))) = some r := H
                have A43 := Aside0.mk A430
                clear A430
                replace H := Option.bind_eq_some_iff.mp H
                obtain ⟨t140, A440, H⟩ := H
                replace H : (if t139 = t140 then ((hourglasslaw05_awake.f).bind fun t141 => (some t141)) else (some false)) = some r := H
                have A44 := Aside0.mk A440
                clear A440
                by_cases c45 : t139 = t140
                · rw [if_pos c45] at H
                  have c45b0 : (t139 == t140) = true := beq_iff_eq.mpr c45
                  have c45b1 : (t139 != t140) = false := bne_eq_false_iff_eq.mpr c45
                  clear c45
                  replace H := Option.bind_eq_some_iff.mp H
                  obtain ⟨t141, A460, H⟩ := H
                  replace H : (some t141) = some r := H
                  have A46 := Aside0.mk A460
                  clear A460
                  first
                    | exact absurd (Option.some.inj H) (by rw [HRT.out]; decide)
                    | (obtain rfl := Option.some.inj H
                       go_wp2_with (first | (go_at_call 37; (with_reducible refine (code_Join.calls a0 a1 t137 _ A40.out).mono ?_); rintro e w47 ⟨rfl, hb⟩; have n0_ := Aside0.mk (below_step (by repeat (first | (with_reducible first | exact HB.out | apply below_alloc | apply pw_below_drewN | apply below_drew1) | exact HB.out)) hb); clear HB; have HB := n0_; clear n0_; (try clear hb); (try clear hb2); (try clear hk); (try clear hi)) | (go_at_call 48; (with_reducible refine (hourglassref05_Join.calls kj6 a0 a1 t138 _ A41.out).mono ?_); rintro e w48 ⟨rfl, hb⟩; have n0_ := Aside0.mk (below_step (by repeat (first | (with_reducible first | exact HB.out | apply below_alloc | apply pw_below_drewN | apply below_drew1) | exact HB.out)) hb); clear HB; have HB := n0_; clear n0_; (try clear hb); (try clear hb2); (try clear hk); (try clear hi)) | (go_at_call 49; (with_reducible refine (code_Of.calls kj6 (wrap64 (a3)) t139 _ A43.out).mono ?_); rintro e w' ⟨rfl, ⟨nd, rfl⟩⟩) | (go_at_call 50; (with_reducible refine (hourglassref05_Of.calls kj6 (wrap64 (a3)) t140 _ A44.out).mono ?_); rintro e w' ⟨rfl, ⟨nd, rfl⟩⟩) | (go_at_call 39; (with_reducible refine (hourglasslaw05_awake.calls  t141 _ A46.out).mono ?_); rintro e w49 ⟨rfl, hb⟩; have n0_ := Aside0.mk (below_step (by repeat (first | (with_reducible first | exact HB.out | apply below_alloc | apply pw_below_drewN | apply below_drew1) | exact HB.out)) hb); clear HB; have HB := n0_; clear n0_; (try clear hb); (try clear hb2); (try clear hk); (try clear hi)))
                       go_ret
                       exact ⟨by first | rfl | (simp [errW_none, errW_some] <;> rfl) | (simp [*, errW_none, errW_some] <;> rfl), by repeat (first | (with_reducible first | exact HB.out | apply below_alloc | apply pw_below_drewN | apply below_drew1) | exact HB.out)⟩)
                · rw [if_neg c45] at H
                  have c45b0 : (t139 == t140) = false := beq_eq_false_iff_ne.mpr c45
                  have c45b1 : (t139 != t140) = true := bne_iff_ne.mpr c45
                  exact absurd (Option.some.inj H) (by rw [HRT.out]; decide)
              · rw [if_neg c42] at H
                have c42b0 : (t137 == t138) = false := beq_eq_false_iff_ne.mpr c42
                have c42b1 : (t137 != t138) = true := bne_iff_ne.mpr c42
                exact absurd (Option.some.inj H) (by rw [HRT.out]; decide)
            · replace c39 := Bool.eq_false_iff.mpr c39
              subst c39
              have H1 : (if t127 = 10 then ((code_Join.f a0 a1).bind fun t142 => ((hourglassref05_Join.f kj6 a0 a1).bind fun t143 => (if t142 = t143 then ((code_Of.f kj6 (wrap64 (a3))).bind fun t144 => ((hourglassref05_Of.f kj6 (wrap64 (a3))).bind fun t145 => (if t144 = t145 then ((hourglasslaw05_awake.f).bind fun t146 => (some t146)) else (some false)))) else (some false)))) else (some false)) = some r := by rw [if_neg (show ¬ (false = true) by decide)] at H; exact H
              clear H
              have H := H1
              clear H1
              by_cases c54 : t127 = 10
              · rw [if_pos c54] at H
                have c54b0 : (t127 == 10) = true := beq_iff_eq.mpr c54
                have c54b1 : (t127 != 10) = false := bne_eq_false_iff_eq.mpr c54
                clear c54
                replace H := Option.bind_eq_some_iff.mp H
                obtain ⟨t142, A550, H⟩ := H
                replace H : ((hourglassref05_Join.f kj6 a0 a1).bind fun t143 => (if t142 = t143 then ((code_Of.f kj6 (wrap64 (a3))).bind fun t144 => ((hourglassref05_Of.f kj6 (wrap64 (a3))).bind fun t145 => (if t144 = t145 then ((hourglasslaw05_awake.f).bind fun t146 => (some t146)) else (some false)))) else (some false))) = some r := H
                have A55 := Aside0.mk A550
                clear A550
                replace H := Option.bind_eq_some_iff.mp H
                obtain ⟨t143, A560, H⟩ := H
                replace H : (if t142 = t143 then ((code_Of.f kj6 (wrap64 (a3))).bind fun t144 => ((hourglassref05_Of.f kj6 (wrap64 (a3))).bind fun t145 => (if t144 = t145 then ((hourglasslaw05_awake.f).bind fun t146 => (some t146)) else (some false)))) else (some false)) = some r := H
                have A56 := Aside0.mk A560
                clear A560
                by_cases c57 : t142 = t143
                · rw [if_pos c57] at H
                  have c57b0 : (t142 == t143) = true := beq_iff_eq.mpr c57
                  have c57b1 : (t142 != t143) = false := bne_eq_false_iff_eq.mpr c57
                  clear c57
                  replace H := Option.bind_eq_some_iff.mp H
                  obtain ⟨t144, A580, H⟩ := H
                  replace H : ((hourglassref05_Of.f kj6 (wrap64 (a3))).bind fun t145 => (if t144 = t145 then ((hourglasslaw05_awake.f).bind fun t146 => (some t146)) else (some false))) = some r := H
                  have A58 := Aside0.mk A580
                  clear A580
                  replace H := Option.bind_eq_some_iff.mp H
                  obtain ⟨t145, A590, H⟩ := H
                  replace H : (if t144 = t145 then ((hourglasslaw05_awake.f).bind fun t146 => (some t146)) else (some false)) = some r := H
                  have A59 := Aside0.mk A590
                  clear A590
                  by_cases c60 : t144 = t145
                  · rw [if_pos c60] at H
                    have c60b0 : (t144 == t145) = true := beq_iff_eq.mpr c60
                    have c60b1 : (t144 != t145) = false := bne_eq_false_iff_eq.mpr c60
                    clear c60
                    replace H := Option.bind_eq_some_iff.mp H
                    obtain ⟨t146, A610, H⟩ := H
                    replace H : (some t146) = some r := H
                    have A61 := Aside0.mk A610
                    clear A610
                    first
                      | exact absurd (Option.some.inj H) (by rw [HRT.out]; decide)
                      | (obtain rfl := Option.some.inj H
                         go_wp2_with (first | (go_at_call 37; (with_reducible refine (code_Join.calls a0 a1 t142 _ A55.out).mono ?_); rintro e w62 ⟨rfl, hb⟩; have n0_ := Aside0.mk (below_step (by repeat (first | (with_reducible first | exact HB.out | apply below_alloc | apply pw_below_drewN | apply below_drew1) | exact HB.out)) hb); clear HB; have HB := n0_; clear n0_; (try clear hb); (try clear hb2); (try clear hk); (try clear hi)) | (go_at_call 48; (with_reducible refine (hourglassref05_Join.calls kj6 a0 a1 t143 _ A56.out).mono ?_); rintro e w63 ⟨rfl, hb⟩; have n0_ := Aside0.mk (below_step (by repeat (first | (with_reducible first | exact HB.out | apply below_alloc | apply pw_below_drewN | apply below_drew1) | exact HB.out)) hb); clear HB; have HB := n0_; clear n0_; (try clear hb); (try clear hb2); (try clear hk); (try clear hi)) | (go_at_call 49; (with_reducible refine (code_Of.calls kj6 (wrap64 (a3)) t144 _ A58.out).mono ?_); rintro e w' ⟨rfl, ⟨nd, rfl⟩⟩) | (go_at_call 50; (with_reducible refine (hourglassref05_Of.calls kj6 (wrap64 (a3)) t145 _ A59.out).mono ?_); rintro e w' ⟨rfl, ⟨nd, rfl⟩⟩) | (go_at_call 39; (with_reducible refine (hourglasslaw05_awake.calls  t146 _ A61.out).mono ?_); rintro e w64 ⟨rfl, hb⟩; have n0_ := Aside0.mk (below_step (by repeat (first | (with_reducible first | exact HB.out | apply below_alloc | apply pw_below_drewN | apply below_drew1) | exact HB.out)) hb); clear HB; have HB := n0_; clear n0_; (try clear hb); (try clear hb2); (try clear hk); (try clear hi)))
                         go_ret
                         exact ⟨by first | rfl | (simp [errW_none, errW_some] <;> rfl) | (simp [*, errW_none, errW_some] <;> rfl), by repeat (first | (with_reducible first | exact HB.out | apply below_alloc | apply pw_below_drewN | apply below_drew1) | exact HB.out)⟩)
                  · rw [if_neg c60] at H
                    have c60b0 : (t144 == t145) = false := beq_eq_false_iff_ne.mpr c60
                    have c60b1 : (t144 != t145) = true := bne_iff_ne.mpr c60
                    exact absurd (Option.some.inj H) (by rw [HRT.out]; decide)
                · rw [if_neg c57] at H
                  have c57b0 : (t142 == t143) = false := beq_eq_false_iff_ne.mpr c57
                  have c57b1 : (t142 != t143) = true := bne_iff_ne.mpr c57
                  exact absurd (Option.some.inj H) (by rw [HRT.out]; decide)
              · rw [if_neg c54] at H
                have c54b0 : (t127 == 10) = false := beq_eq_false_iff_ne.mpr c54
                have c54b1 : (t127 != 10) = true := bne_iff_ne.mpr c54
                exact absurd (Option.some.inj H) (by rw [HRT.out]; decide)
          · rw [if_neg c38] at H
            have c38b0 : (t129 == (t127 == 0)) = false := by simpa using c38
            (try (have c38b1 : decide (t129 = (t127 == 0)) = false := by simpa using c38))
            (try (have c38b2 : (t129 == (t127 == 0)) = false := by simpa using c38))
            (try (have c38b3 : ¬ (t129 = (t127 == 0)) := by simpa using c38))
            clear c38
            exact absurd (Option.some.inj H) (by rw [HRT.out]; decide)
        · rw [if_neg c37] at H
          have c37b0 : (t126 == t128) = false := beq_eq_false_iff_ne.mpr c37
          have c37b1 : (t126 != t128) = true := bne_iff_ne.mpr c37
          exact absurd (Option.some.inj H) (by rw [HRT.out]; decide)
/-- THE ONE PURE STATEMENT of hourglasslaw05_CodeTells: yours. -/
def hourglasslaw05_CodeTells.Pure : Prop := ∀ (a0 : Int) (a1 : Int) (a2 : ByteArray) (a3 : Int), (Lit.int .i64 a0).wf = true → (Lit.int .i64 a1).wf = true → a2.size ≤ 140737488351232 → (Lit.int .i16 a3).wf = true → ∃ k, hourglasslaw05_CodeTells.f k a0 a1 a2 a3 = some true
theorem hourglasslaw05_CodeTells.walk (P : hourglasslaw05_CodeTells.Pure) (a0 : Int) (a1 : Int) (a2 : ByteArray) (a3 : Int) (w : World) (w0 : (Lit.int .i64 a0).wf = true) (w1 : (Lit.int .i64 a1).wf = true) (w2 : a2.size ≤ 140737488351232) (w3 : (Lit.int .i16 a3).wf = true) :
    Calls Try.prog 12 #[.int .i64 a0, .int .i64 a1, .string a2, .int .i16 a3] w fun e w' => e = .returned (.bool true) ∧ Below w.heap.size w w' := by
  obtain ⟨k, h⟩ := P a0 a1 a2 a3 w0 w1 w2 w3
  refine (hourglasslaw05_CodeTells.calls k a0 a1 a2 a3 true w h rfl).mono ?_
  rintro e w' ⟨rfl, hd⟩
  exact ⟨rfl, hd⟩

end Go.Proofs.Ytfaoeafmgigpcaa.FCodeTells
