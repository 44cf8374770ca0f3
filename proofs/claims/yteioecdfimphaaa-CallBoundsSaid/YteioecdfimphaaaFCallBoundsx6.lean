/- The functions that CallBounds reaches, as Lean functions, and what the Go code comes to: the same answers. No condition but that they answer. -/
import Derived.Test.YteioecdfimphaaaFCallBoundsx0
import Derived.Test.YteioecdfimphaaaSh
import Derived.Test.YteioecdfimphaaaFCallBoundsx2
import Derived.Test.YteioecdfimphaaaFCallBoundsx4
namespace Go.Proofs.Yteioecdfimphaaa.FCallBounds
open Go.RowKit Go.Proofs.Yteioecdfimphaaa.Sh Go.Proofs.YteioecdfimphaaaW.PrintWords Go.Proofs.YteioecdfimphaaaW.PrintLast Go.Proofs.YteioecdfimphaaaW.PrintMore
attribute [local go_sem] max2_int min2_int max_two min_two max_three min_three max_four min_four   -- for this text's walks alone
set_option linter.unusedVariables false
set_option linter.unusedSimpArgs false

/-! ### hourglasslaw21_awake: function 39 -/
def hourglasslaw21_awake.f (k : Nat)  : Option (Bool) := (call_Begin.f k 0 0 0 0 0 0 0 0 0 false 0 0 0 0).bind fun bt250 => ((call_Bad.f k bt250.1 bt250.2.1 bt250.2.2.1 bt250.2.2.2.1 bt250.2.2.2.2.1 bt250.2.2.2.2.2.1 bt250.2.2.2.2.2.2.1 bt250.2.2.2.2.2.2.2.1 bt250.2.2.2.2.2.2.2.2.1 bt250.2.2.2.2.2.2.2.2.2.1 bt250.2.2.2.2.2.2.2.2.2.2.1 bt250.2.2.2.2.2.2.2.2.2.2.2.1 bt250.2.2.2.2.2.2.2.2.2.2.2.2 0 0 0 0 0 0 0 0 2 1 1 0 1 ([] : List (List (S46))) 14 0 false (-2) 1000 0 99 0).bind fun bt263 => ((call_Begin.f k bt263.1 bt263.2.1 bt263.2.2.1 bt263.2.2.2.1 bt263.2.2.2.2.1 bt263.2.2.2.2.2.1 bt263.2.2.2.2.2.2.1 bt263.2.2.2.2.2.2.2.1 bt263.2.2.2.2.2.2.2.2.1 bt263.2.2.2.2.2.2.2.2.2.1 bt263.2.2.2.2.2.2.2.2.2.2.1 bt263.2.2.2.2.2.2.2.2.2.2.2.1 bt263.2.2.2.2.2.2.2.2.2.2.2.2.1 5).bind fun bt278 => ((call_Good.f bt278.1 bt278.2.1 bt278.2.2.1 bt278.2.2.2.1 bt278.2.2.2.2.1 bt278.2.2.2.2.2.1 bt278.2.2.2.2.2.2.1 bt278.2.2.2.2.2.2.2.1 bt278.2.2.2.2.2.2.2.2.1 bt278.2.2.2.2.2.2.2.2.2.1 bt278.2.2.2.2.2.2.2.2.2.2.1 bt278.2.2.2.2.2.2.2.2.2.2.2.1 bt278.2.2.2.2.2.2.2.2.2.2.2.2 7).bind fun bt291 => (if bt263.2.2.2.2.2.2.1 = 2 then (if bt263.2.2.2.2.2.2.2.2.1 = 1 then (if bt291.2.2.2.2.2.2.1 = 3 then (if bt291.2.2.2.2.2.2.2.2.2.2.1 = 0 then (if bt291.2.2.2.2.2.2.2.2.2.2.2.1 = 7 then (some (bt291.2.2.2.2.2.2.2.2.2.2.2.2 == 2)) else (some false)) else (some false)) else (some false)) else (some false)) else (some false)))))
theorem hourglasslaw21_awake.mono : ∀ k, LeO (hourglasslaw21_awake.f k ) (hourglasslaw21_awake.f (k + 1) ) := by
  intro  k
  unfold hourglasslaw21_awake.f
  repeat' first
      | (with_reducible exact call_Bad.mono _ _ _ _ _ _ _ _ _ _ _ _ _ _ _ _ _ _ _ _ _ _ _ _ _ _ _ _ _ _ _ _ _ _ _ _)
      | (with_reducible exact call_Begin.mono _ _ _ _ _ _ _ _ _ _ _ _ _ _ _)
      | (with_reducible exact LeO.refl _)
      | (with_reducible exact LeO.none _)
      | (with_reducible refine LeO.ite ?_ ?_)
      | (with_reducible refine LeO.bind ?_ (fun _ => ?_))
      | exact call_Bad.mono _ _ _ _ _ _ _ _ _ _ _ _ _ _ _ _ _ _ _ _ _ _ _ _ _ _ _ _ _ _ _ _ _ _ _ _
      | exact call_Begin.mono _ _ _ _ _ _ _ _ _ _ _ _ _ _ _
      | exact LeO.none _
      | refine LeO.ite ?_ ?_
      | refine LeO.bind ?_ (fun _ => ?_)
set_option maxHeartbeats 40000000 in
set_option maxRecDepth 100000 in
theorem hourglasslaw21_awake.calls (k : Nat)  (r : Bool) (w : World) (h : hourglasslaw21_awake.f k  = some r) (hrT : r = true) :
    Calls Try.prog 39 #[] w fun e w' => e = .returned (.bool r) ∧ Below w.heap.size w w' := by
  have HRT := Aside0.mk hrT
  clear hrT
  have hu58 := Try.underlying58
  have hu72 := Try.underlying72
  have hu85 := Try.underlying85
  have HB := Aside0.mk (Below.refl w.heap.size w)
  have H : ((call_Begin.f k 0 0 0 0 0 0 0 0 0 false 0 0 0 0).bind fun bt250 => ((call_Bad.f k bt250.1 bt250.2.1 bt250.2.2.1 bt250.2.2.2.1 bt250.2.2.2.2.1 bt250.2.2.2.2.2.1 bt250.2.2.2.2.2.2.1 bt250.2.2.2.2.2.2.2.1 bt250.2.2.2.2.2.2.2.2.1 bt250.2.2.2.2.2.2.2.2.2.1 bt250.2.2.2.2.2.2.2.2.2.2.1 bt250.2.2.2.2.2.2.2.2.2.2.2.1 bt250.2.2.2.2.2.2.2.2.2.2.2.2 0 0 0 0 0 0 0 0 2 1 1 0 1 ([] : List (List (S46))) 14 0 false (-2) 1000 0 99 0).bind fun bt263 => ((call_Begin.f k bt263.1 bt263.2.1 bt263.2.2.1 bt263.2.2.2.1 bt263.2.2.2.2.1 bt263.2.2.2.2.2.1 bt263.2.2.2.2.2.2.1 bt263.2.2.2.2.2.2.2.1 bt263.2.2.2.2.2.2.2.2.1 bt263.2.2.2.2.2.2.2.2.2.1 bt263.2.2.2.2.2.2.2.2.2.2.1 bt263.2.2.2.2.2.2.2.2.2.2.2.1 bt263.2.2.2.2.2.2.2.2.2.2.2.2.1 5).bind fun bt278 => ((call_Good.f bt278.1 bt278.2.1 bt278.2.2.1 bt278.2.2.2.1 bt278.2.2.2.2.1 bt278.2.2.2.2.2.1 bt278.2.2.2.2.2.2.1 bt278.2.2.2.2.2.2.2.1 bt278.2.2.2.2.2.2.2.2.1 bt278.2.2.2.2.2.2.2.2.2.1 bt278.2.2.2.2.2.2.2.2.2.2.1 bt278.2.2.2.2.2.2.2.2.2.2.2.1 bt278.2.2.2.2.2.2.2.2.2.2.2.2 7).bind fun bt291 => (if bt263.2.2.2.2.2.2.1 = 2 then (if bt263.2.2.2.2.2.2.2.2.1 = 1 then (if bt291.2.2.2.2.2.2.1 = 3 then (if bt291.2.2.2.2.2.2.2.2.2.2.1 = 0 then (if bt291.2.2.2.2.2.2.2.2.2.2.2.1 = 7 then (some (bt291.2.2.2.2.2.2.2.2.2.2.2.2 == 2)) else (some false)) else (some false)) else (some false)) else (some false)) else (some false)))))) = some r := h
  clear h
  replace H := Option.bind_eq_some_iff.mp H
  obtain ⟨⟨t250, t251, t252, t253, t254, t255, t256, t257, t258, t259, t260, t261, t262⟩, A10, H⟩ := H
  replace H : ((call_Bad.f k t250 t251 t252 t253 t254 t255 t256 t257 t258 t259 t260 t261 t262 0 0 0 0 0 0 0 0 2 1 1 0 1 ([] : List (List (S46))) 14 0 false (-2) 1000 0 99 0).bind fun bt263 => ((call_Begin.f k bt263.1 bt263.2.1 bt263.2.2.1 bt263.2.2.2.1 bt263.2.2.2.2.1 bt263.2.2.2.2.2.1 bt263.2.2.2.2.2.2.1 bt263.2.2.2.2.2.2.2.1 bt263.2.2.2.2.2.2.2.2.1 bt263.2.2.2.2.2.2.2.2.2.1 bt263.2.2.2.2.2.2.2.2.2.2.1 bt263.2.2.2.2.2.2.2.2.2.2.2.1 bt263.2.2.2.2.2.2.2.2.2.2.2.2.1 5).bind fun bt278 => ((call_Good.f bt278.1 bt278.2.1 bt278.2.2.1 bt278.2.2.2.1 bt278.2.2.2.2.1 bt278.2.2.2.2.2.1 bt278.2.2.2.2.2.2.1 bt278.2.2.2.2.2.2.2.1 bt278.2.2.2.2.2.2.2.2.1 bt278.2.2.2.2.2.2.2.2.2.1 bt278.2.2.2.2.2.2.2.2.2.2.1 bt278.2.2.2.2.2.2.2.2.2.2.2.1 bt278.2.2.2.2.2.2.2.2.2.2.2.2 7).bind fun bt291 => (if bt263.2.2.2.2.2.2.1 = 2 then (if bt263.2.2.2.2.2.2.2.2.1 = 1 then (if bt291.2.2.2.2.2.2.1 = 3 then (if bt291.2.2.2.2.2.2.2.2.2.2.1 = 0 then (if bt291.2.2.2.2.2.2.2.2.2.2.2.1 = 7 then (some (bt291.2.2.2.2.2.2.2.2.2.2.2.2 == 2)) else (some false)) else (some false)) else (some false)) else (some false)) else (some false))))) = some r := H
  have A1 := Aside0.mk A10
  clear A10
  replace H := Option.bind_eq_some_iff.mp H
  obtain ⟨⟨t263, t264, t265, t266, t267, t268, t269, t270, t271, t272, t273, t274, t275, t276⟩, A20, H⟩ := H
  replace H : ((call_Begin.f k t263 t264 t265 t266 t267 t268 t269 t270 t271 t272 t273 t274 t275 5).bind fun bt278 => ((call_Good.f bt278.1 bt278.2.1 bt278.2.2.1 bt278.2.2.2.1 bt278.2.2.2.2.1 bt278.2.2.2.2.2.1 bt278.2.2.2.2.2.2.1 bt278.2.2.2.2.2.2.2.1 bt278.2.2.2.2.2.2.2.2.1 bt278.2.2.2.2.2.2.2.2.2.1 bt278.2.2.2.2.2.2.2.2.2.2.1 bt278.2.2.2.2.2.2.2.2.2.2.2.1 bt278.2.2.2.2.2.2.2.2.2.2.2.2 7).bind fun bt291 => (if t269 = 2 then (if t271 = 1 then (if bt291.2.2.2.2.2.2.1 = 3 then (if bt291.2.2.2.2.2.2.2.2.2.2.1 = 0 then (if bt291.2.2.2.2.2.2.2.2.2.2.2.1 = 7 then (some (bt291.2.2.2.2.2.2.2.2.2.2.2.2 == 2)) else (some false)) else (some false)) else (some false)) else (some false)) else (some false)))) = some r := H
  have A2 := Aside0.mk A20
  clear A20
  replace H := Option.bind_eq_some_iff.mp H
  obtain ⟨⟨t278, t279, t280, t281, t282, t283, t284, t285, t286, t287, t288, t289, t290⟩, A30, H⟩ := H
  replace H : ((call_Good.f t278 t279 t280 t281 t282 t283 t284 t285 t286 t287 t288 t289 t290 7).bind fun bt291 => (if t269 = 2 then (if t271 = 1 then (if bt291.2.2.2.2.2.2.1 = 3 then (if bt291.2.2.2.2.2.2.2.2.2.2.1 = 0 then (if bt291.2.2.2.2.2.2.2.2.2.2.2.1 = 7 then (some (bt291.2.2.2.2.2.2.2.2.2.2.2.2 == 2)) else (some false)) else (some false)) else (some false)) else (some false)) else (some false))) = some r := H
  have A3 := Aside0.mk A30
  clear A30
  replace H := Option.bind_eq_some_iff.mp H
  obtain ⟨⟨t291, t292, t293, t294, t295, t296, t297, t298, t299, t300, t301, t302, t303⟩, A40, H⟩ := H
  replace H : (if t269 = 2 then (if t271 = 1 then (if t297 = 3 then (if t301 = 0 then (if t302 = 7 then (some (t303 == 2)) else (some false)) else (some false)) else (some false)) else (some false)) else (some false)) = some r := H
  have A4 := Aside0.mk A40
  clear A40
  by_cases c5 : t269 = 2
  · rw [if_pos c5] at H
    have c5b0 : (t269 == 2) = true := beq_iff_eq.mpr c5
    have c5b1 : (t269 != 2) = false := bne_eq_false_iff_eq.mpr c5
    clear c5
    by_cases c6 : t271 = 1
    · rw [if_pos c6] at H
      have c6b0 : (t271 == 1) = true := beq_iff_eq.mpr c6
      have c6b1 : (t271 != 1) = false := bne_eq_false_iff_eq.mpr c6
      clear c6
      by_cases c7 : t297 = 3
      · rw [if_pos c7] at H
        have c7b0 : (t297 == 3) = true := beq_iff_eq.mpr c7
        have c7b1 : (t297 != 3) = false := bne_eq_false_iff_eq.mpr c7
        clear c7
        by_cases c8 : t301 = 0
        · rw [if_pos c8] at H
          have c8b0 : (t301 == 0) = true := beq_iff_eq.mpr c8
          have c8b1 : (t301 != 0) = false := bne_eq_false_iff_eq.mpr c8
          clear c8
          by_cases c9 : t302 = 7
          · rw [if_pos c9] at H
            have c9b0 : (t302 == 7) = true := beq_iff_eq.mpr c9
            have c9b1 : (t302 != 7) = false := bne_eq_false_iff_eq.mpr c9
            clear c9
            first
              | exact absurd (Option.some.inj H) (by rw [HRT.out]; decide)
              | (obtain rfl := Option.some.inj H
                 go_enter Try.func39, Try.ntmps39
                 go_wp2_with (first | ((with_reducible refine gate_callee (f := 40) rfl ?_); refine goesL_ (some 6) rfl rfl Try.func40 (by kernel_rfl) rfl #[.agg #[.int .i64 0, .int .i64 0, .int .i64 0, .int .i64 0, .int .i64 0, .int .i64 0, .int .i64 0, .int .i64 0, .int .i64 0, .bool false, .int .i64 0, .int .i64 0, .int .i64 0], .int .i64 0] rfl (by (try simp only [List.map_toArray, List.map_cons, List.map_nil]); first | done | rfl | (simp only [List.length_drop, List.length_take]; rfl)) ?_; (with_reducible refine (call_Begin.calls k 0 0 0 0 0 0 0 0 0 false 0 0 0 0 t250 t251 t252 t253 t254 t255 t256 t257 t258 t259 t260 t261 t262 _ A1.out).mono ?_); rintro e w10 ⟨rfl, hb⟩; refine ⟨_, rfl, ?_⟩; have n0_ := Aside0.mk (below_step (by repeat (first | (with_reducible first | exact HB.out | apply pA | apply pN | apply pD) | exact HB.out)) hb); clear HB; have HB := n0_; clear n0_; (try clear hb); (try clear hb2); (try clear hk); (try clear hi)) | ((with_reducible refine gate_callee (f := 43) rfl ?_); refine goesL_ (some 9) rfl rfl Try.func43 (by kernel_rfl) rfl #[.agg #[.int .i64 t250, .int .i64 t251, .int .i64 t252, .int .i64 t253, .int .i64 t254, .int .i64 t255, .int .i64 t256, .int .i64 t257, .int .i64 t258, .bool t259, .int .i64 t260, .int .i64 t261, .int .i64 t262], .agg #[.int .i64 0, .int .i64 0, .int .i64 0, .int .i64 0, .int .i64 0, .int .i64 0, .int .i64 0, .int .i64 0, .int .i64 2, .int .i64 1, .int .i64 1, .int .i64 0, .int .i64 1, .slice none 0 0], .agg #[.int .i64 14, .int .i64 0, .bool false, .int .i64 (-2), .int .i64 1000, .int .i64 0, .int .i64 99, .int .i64 0]] rfl (by (try simp only [List.map_toArray, List.map_cons, List.map_nil]); first | done | rfl | (simp only [List.length_drop, List.length_take]; rfl)) ?_; (refine (call_Bad.calls k t250 t251 t252 t253 t254 t255 t256 t257 t258 t259 t260 t261 t262 0 0 0 0 0 0 0 0 2 1 1 0 1 _ _ ([] : List (List (S46))) 14 0 false (-2) 1000 0 99 0 t263 t264 t265 t266 t267 t268 t269 t270 t271 t272 t273 t274 t275 t276 _ ?side1 ?side2 A2.out).mono ?_); (case side1 => exact Kd.C_nil _ _); (case side2 => exact Nat.le_refl _); rintro e w11 ⟨rfl, hb⟩; refine ⟨_, rfl, ?_⟩; have n0_ := Aside0.mk (below_step (by repeat (first | (with_reducible first | exact HB.out | apply pA | apply pN | apply pD) | exact HB.out)) hb); clear HB; have HB := n0_; clear n0_; (try clear hb); (try clear hb2); (try clear hk); (try clear hi)) | ((with_reducible refine gate_dst (N := 1) rfl ?_); refine box_event ?hg (N := 1) ?hd (cs := #[.int .i64 0, .int .i64 0, .int .i64 0, .int .i64 0, .int .i64 0, .int .i64 0, .int .i64 0, .int .i64 0, .int .i64 0, .bool false, .int .i64 0, .int .i64 0, .int .i64 0]) (t := 58) ?hr ?_; (case hd => rfl); (case hg => rfl); (case hr => first | (go_simp; done) | (go_simp; rfl)); intro gb277 hg w12 hbox hb; have n0_ := Aside0.mk (below_step (by repeat (first | (with_reducible first | exact HB.out | apply pA | apply pN | apply pD) | exact HB.out)) hb); have n1_ := Aside0.mk (hbox); have n2_ := Aside0.mk ((by rw [hg]; exact (below_size (by repeat (first | (with_reducible first | exact HB.out | apply pA | apply pN | apply pD) | exact HB.out))) : w.heap.size ≤ gb277)); have n3_ := Aside0.mk ((by rw [hg]; exact (below_size (by repeat (first | (with_reducible first | exact HB.out | apply pA | apply pN | apply pD) | exact HB.out))) : w.heap.size ≤ gb277)); clear HB; have HB := n0_; have BK277 := n1_; have GW277 := n2_; have GE277 := n3_; clear n0_ n1_ n2_ n3_; clear hb hbox hg; obtain ⟨hcz13_0, hcz13_1, hcz13_2, hcz13_3, hcz13_4, hcz13_5, hcz13_6, hcz13_7, hcz13_8, hcz13_9, hcz13_10, hcz13_11, hcz13_12⟩ := bc13 BK277.out; obtain ⟨hfz13_0, hfz13_1, hfz13_2, hfz13_3, hfz13_4, hfz13_5, hfz13_6, hfz13_7, hfz13_8, hfz13_9, hfz13_10, hfz13_11, hfz13_12⟩ := bf13 BK277.out) | ((with_reducible refine gate_callee (f := 40) rfl ?_); refine goesL_ (some 13) rfl rfl Try.func40 (by kernel_rfl) rfl #[.agg #[.int .i64 t263, .int .i64 t264, .int .i64 t265, .int .i64 t266, .int .i64 t267, .int .i64 t268, .int .i64 t269, .int .i64 t270, .int .i64 t271, .bool t272, .int .i64 t273, .int .i64 t274, .int .i64 t275], .int .i64 5] rfl (by (try simp only [List.map_toArray, List.map_cons, List.map_nil]); first | done | rfl | (simp only [List.length_drop, List.length_take]; rfl)) ?_; (with_reducible refine (call_Begin.calls k t263 t264 t265 t266 t267 t268 t269 t270 t271 t272 t273 t274 t275 5 t278 t279 t280 t281 t282 t283 t284 t285 t286 t287 t288 t289 t290 _ A3.out).mono ?_); rintro e w14 ⟨rfl, hb⟩; refine ⟨_, rfl, ?_⟩; have n0_ := Aside0.mk (blk_below (g := gb277) (o := .cells #[.int .i64 t263, .int .i64 t264, .int .i64 t265, .int .i64 t266, .int .i64 t267, .int .i64 t268, .int .i64 t269, .int .i64 t270, .int .i64 t271, .bool t272, .int .i64 t273, .int .i64 t274, .int .i64 t275] 58 (0, 0)) (by (with_reducible repeat (first | refine bN ?_ _ | refine bD ?_ | refine bA ?_ _)); apply bq; (with_reducible repeat (first | refine bN ?_ _ | refine bD ?_ | refine bA ?_ _)); apply bq; (with_reducible repeat (first | refine bN ?_ _ | refine bD ?_ | refine bA ?_ _)); apply bq; (with_reducible repeat (first | refine bN ?_ _ | refine bD ?_ | refine bA ?_ _)); apply bq; (with_reducible repeat (first | refine bN ?_ _ | refine bD ?_ | refine bA ?_ _)); apply bq; (with_reducible repeat (first | refine bN ?_ _ | refine bD ?_ | refine bA ?_ _)); apply bq; (with_reducible repeat (first | refine bN ?_ _ | refine bD ?_ | refine bA ?_ _)); apply bq; (with_reducible repeat (first | refine bN ?_ _ | refine bD ?_ | refine bA ?_ _)); apply bq; (with_reducible repeat (first | refine bN ?_ _ | refine bD ?_ | refine bA ?_ _)); apply bq; (with_reducible repeat (first | refine bN ?_ _ | refine bD ?_ | refine bA ?_ _)); apply bq; (with_reducible repeat (first | refine bN ?_ _ | refine bD ?_ | refine bA ?_ _)); apply bq; (with_reducible repeat (first | refine bN ?_ _ | refine bD ?_ | refine bA ?_ _)); apply bq; (with_reducible repeat (first | refine bN ?_ _ | refine bD ?_ | refine bA ?_ _)); apply bq; (with_reducible repeat (first | refine bN ?_ _ | refine bD ?_ | refine bA ?_ _)); exact BK277.out; all_goals rfl) hb); have n1_ := Aside0.mk (below_step (by repeat (first | (with_reducible first | exact HB.out | apply pA | apply pN | apply pD | refine pS ?_ GE277.out) | exact HB.out)) hb); clear BK277; clear HB; have BK277 := n0_; have HB := n1_; clear n0_ n1_; (try clear hb); (try clear hb2); (try clear hk); (try clear hi)) | ((with_reducible refine gate_callee (f := 68) rfl ?_); refine goesL_ (some 14) rfl rfl Try.func68 (by kernel_rfl) rfl #[.agg #[.int .i64 t278, .int .i64 t279, .int .i64 t280, .int .i64 t281, .int .i64 t282, .int .i64 t283, .int .i64 t284, .int .i64 t285, .int .i64 t286, .bool t287, .int .i64 t288, .int .i64 t289, .int .i64 t290], .int .i64 7] rfl (by (try simp only [List.map_toArray, List.map_cons, List.map_nil]); first | done | rfl | (simp only [List.length_drop, List.length_take]; rfl)) ?_; (with_reducible refine (call_Good.calls t278 t279 t280 t281 t282 t283 t284 t285 t286 t287 t288 t289 t290 7 t291 t292 t293 t294 t295 t296 t297 t298 t299 t300 t301 t302 t303 _ A4.out).mono ?_); rintro e w15 ⟨rfl, hb⟩; refine ⟨_, rfl, ?_⟩; have n0_ := Aside0.mk (blk_below (g := gb277) (by (with_reducible repeat (first | refine bN ?_ _ | refine bD ?_ | refine bA ?_ _)); exact BK277.out) hb); have n1_ := Aside0.mk (below_step (by repeat (first | (with_reducible first | exact HB.out | apply pA | apply pN | apply pD | refine pS ?_ GE277.out) | exact HB.out)) hb); clear BK277; clear HB; have BK277 := n0_; have HB := n1_; clear n0_ n1_; (try clear hb); (try clear hb2); (try clear hk); (try clear hi)) | ((with_reducible refine gate_dst (N := 3) rfl ?_); refine box_event ?hg (N := 3) ?hd (cs := #[.int .i64 0, .int .i64 0, .int .i64 0, .int .i64 0, .int .i64 0, .int .i64 0, .int .i64 0, .int .i64 0, .int .i64 0, .bool false, .int .i64 0, .int .i64 0, .int .i64 0]) (t := 58) ?hr ?_; (case hd => rfl); (case hg => rfl); (case hr => first | (go_simp; done) | (go_simp; rfl)); intro gb304 hg w16 hbox hb; have n0_ := Aside0.mk (blk_below (g := gb277) (by (with_reducible repeat (first | refine bN ?_ _ | refine bD ?_ | refine bA ?_ _)); exact BK277.out) hb); have n1_ := Aside0.mk (below_step (by repeat (first | (with_reducible first | exact HB.out | apply pA | apply pN | apply pD | refine pS ?_ GE277.out) | exact HB.out)) hb); have n2_ := Aside0.mk (hbox); have n3_ := Aside0.mk ((by rw [hg]; exact (below_size (by repeat (first | (with_reducible first | exact HB.out | apply pA | apply pN | apply pD | refine pS ?_ GE277.out) | exact HB.out))) : w.heap.size ≤ gb304)); have n4_ := Aside0.mk ((by rw [hg]; exact (below_size (by repeat (first | (with_reducible first | exact HB.out | apply pA | apply pN | apply pD | refine pS ?_ GE277.out) | exact HB.out))) : w.heap.size ≤ gb304)); have n5_ := Aside0.mk ((by rw [hg]; exact Nat.ne_of_lt (blk_lt (g := gb277) (by (with_reducible repeat (first | refine bN ?_ _ | refine bD ?_ | refine bA ?_ _)); exact BK277.out)) : gb277 ≠ gb304)); have n6_ := Aside0.mk n5_.out.symm; clear BK277; clear HB; have BK277 := n0_; have HB := n1_; have BK304 := n2_; have GW304 := n3_; have GE304 := n4_; have NB277_304 := n5_; have NB304_277 := n6_; clear n0_ n1_ n2_ n3_ n4_ n5_ n6_; clear hb hbox hg; have hnb17 := NB304_277.out; have hnc17 := NB277_304.out; obtain ⟨hcz18_0, hcz18_1, hcz18_2, hcz18_3, hcz18_4, hcz18_5, hcz18_6, hcz18_7, hcz18_8, hcz18_9, hcz18_10, hcz18_11, hcz18_12⟩ := bc13 BK304.out; obtain ⟨hfz18_0, hfz18_1, hfz18_2, hfz18_3, hfz18_4, hfz18_5, hfz18_6, hfz18_7, hfz18_8, hfz18_9, hfz18_10, hfz18_11, hfz18_12⟩ := bf13 BK304.out; obtain ⟨hcz19_0, hcz19_1, hcz19_2, hcz19_3, hcz19_4, hcz19_5, hcz19_6, hcz19_7, hcz19_8, hcz19_9, hcz19_10, hcz19_11, hcz19_12⟩ := bc13 BK277.out; obtain ⟨hfz19_0, hfz19_1, hfz19_2, hfz19_3, hfz19_4, hfz19_5, hfz19_6, hfz19_7, hfz19_8, hfz19_9, hfz19_10, hfz19_11, hfz19_12⟩ := bf13 BK277.out))
                 go_ret
                 exact ⟨by first | rfl | (simp [errW_none, errW_some] <;> rfl) | (simp [*, errW_none, errW_some] <;> rfl), by repeat (first | (with_reducible first | exact HB.out | apply pA | apply pN | apply pD | refine pS ?_ GE277.out | refine pS ?_ GE304.out) | exact HB.out)⟩)
          · rw [if_neg c9] at H
            have c9b0 : (t302 == 7) = false := beq_eq_false_iff_ne.mpr c9
            have c9b1 : (t302 != 7) = true := bne_iff_ne.mpr c9
            exact absurd (Option.some.inj H) (by rw [HRT.out]; decide)
        · rw [if_neg c8] at H
          have c8b0 : (t301 == 0) = false := beq_eq_false_iff_ne.mpr c8
          have c8b1 : (t301 != 0) = true := bne_iff_ne.mpr c8
          exact absurd (Option.some.inj H) (by rw [HRT.out]; decide)
      · rw [if_neg c7] at H
        have c7b0 : (t297 == 3) = false := beq_eq_false_iff_ne.mpr c7
        have c7b1 : (t297 != 3) = true := bne_iff_ne.mpr c7
        exact absurd (Option.some.inj H) (by rw [HRT.out]; decide)
    · rw [if_neg c6] at H
      have c6b0 : (t271 == 1) = false := beq_eq_false_iff_ne.mpr c6
      have c6b1 : (t271 != 1) = true := bne_iff_ne.mpr c6
      exact absurd (Option.some.inj H) (by rw [HRT.out]; decide)
  · rw [if_neg c5] at H
    have c5b0 : (t269 == 2) = false := beq_eq_false_iff_ne.mpr c5
    have c5b1 : (t269 != 2) = true := bne_iff_ne.mpr c5
    exact absurd (Option.some.inj H) (by rw [HRT.out]; decide)
end Go.Proofs.Yteioecdfimphaaa.FCallBounds
