/- The functions that CallBounds reaches, as Lean functions, and what the Go code comes to: the same answers. No condition but that they answer. -/
import Derived.Test.YteioecdfimphaaaFCallBoundsx0
import Derived.Test.YteioecdfimphaaaSh
import Derived.Test.YteioecdfimphaaaFCallBoundsx1
import Derived.Test.YteioecdfimphaaaFCallBoundsx5
import Derived.Test.YteioecdfimphaaaFCallBoundsx6
namespace Go.Proofs.Yteioecdfimphaaa.FCallBounds
open Go.RowKit Go.Proofs.Yteioecdfimphaaa.Sh Go.Proofs.YteioecdfimphaaaW.PrintWords Go.Proofs.YteioecdfimphaaaW.PrintLast Go.Proofs.YteioecdfimphaaaW.PrintMore
attribute [local go_sem] max2_int min2_int max_two min_two max_three min_three max_four min_four   -- for this text's walks alone
set_option linter.unusedVariables false
set_option linter.unusedSimpArgs false

attribute [local go_sem high] eqA58
/-! ### hourglasslaw21_CallBounds: function 8 -/
mutual
def hourglasslaw21_CallBounds.l0 : Nat → List (S79) → Int → Int → Int → Int → Int → Int → Int → Int → Int → Int → Int → Int → Int → Int → List (List (S46)) → Int → Int → Int → Int → Int → Int → Int → Int → Int → Bool → Int → Int → Int → Option (Bool)
  | 0, _, _, _, _, _, _, _, _, _, _, _, _, _, _, _, _, _, _, _, _, _, _, _, _, _, _, _, _, _ => none
  | k + 1, x2, x8, x307000, x307001, x307002, x307003, x307004, x307005, x307006, x307007, x307008, x307009, x307010, x307011, x307012, x307013, x308000, x308001, x308002, x308003, x308004, x308005, x308006, x308007, x308008, x308009, x308010, x308011, x308012 => if x8 < (x2.length : Int) then (hourglasslaw21_CallBounds.j1 k x2 x8 (decide (x8 < 40)) x307000 x307001 x307002 x307003 x307004 x307005 x307006 x307007 x307008 x307009 x307010 x307011 x307012 x307013 x308000 x308001 x308002 x308003 x308004 x308005 x308006 x308007 x308008 x308009 x308010 x308011 x308012) else (hourglasslaw21_CallBounds.j1 k x2 x8 false x307000 x307001 x307002 x307003 x307004 x307005 x307006 x307007 x307008 x307009 x307010 x307011 x307012 x307013 x308000 x308001 x308002 x308003 x308004 x308005 x308006 x308007 x308008 x308009 x308010 x308011 x308012)
def hourglasslaw21_CallBounds.j1 : Nat → List (S79) → Int → Bool → Int → Int → Int → Int → Int → Int → Int → Int → Int → Int → Int → Int → Int → List (List (S46)) → Int → Int → Int → Int → Int → Int → Int → Int → Int → Bool → Int → Int → Int → Option (Bool)
  | 0, _, _, _, _, _, _, _, _, _, _, _, _, _, _, _, _, _, _, _, _, _, _, _, _, _, _, _, _, _, _ => none
  | k + 1, x2, x8, x20, x307000, x307001, x307002, x307003, x307004, x307005, x307006, x307007, x307008, x307009, x307010, x307011, x307012, x307013, x308000, x308001, x308002, x308003, x308004, x308005, x308006, x308007, x308008, x308009, x308010, x308011, x308012 => if x20 = true then (if 0 ≤ x8 then (if x8 < (x2.length : Int) then ((hourglasslaw21_step.f k x308000 x308001 x308002 x308003 x308004 x308005 x308006 x308007 x308008 x308009 x308010 x308011 x308012 x307000 x307001 x307002 x307003 x307004 x307005 x307006 x307007 x307008 x307009 x307010 x307011 x307012 x307013 ((rd_T79 x2 x8).f0) ((rd_T79 x2 x8).f1) ((rd_T79 x2 x8).f2.f0) ((rd_T79 x2 x8).f2.f1) ((rd_T79 x2 x8).f2.f2) ((rd_T79 x2 x8).f2.f3) ((rd_T79 x2 x8).f2.f4) ((rd_T79 x2 x8).f2.f5) ((rd_T79 x2 x8).f2.f6) ((rd_T79 x2 x8).f2.f7)).bind fun bt309 => (if x308006 = 3 then (hourglasslaw21_CallBounds.j2 k x2 x8 ((!(bt309.1 == x308000) || (!(bt309.2.1 == x308001) || (!(bt309.2.2.1 == x308002)))) || (!(bt309.2.2.2.1 == x308003) || (!(bt309.2.2.2.2.1 == x308004) || (!(bt309.2.2.2.2.2.1 == x308005) || (!(bt309.2.2.2.2.2.2.1 == x308006) || (!(bt309.2.2.2.2.2.2.2.1 == x308007) || (!(bt309.2.2.2.2.2.2.2.2.1 == x308008) || (!(bt309.2.2.2.2.2.2.2.2.2.1 == x308009) || (!(bt309.2.2.2.2.2.2.2.2.2.2.1 == x308010) || (!(bt309.2.2.2.2.2.2.2.2.2.2.2.1 == x308011) || (!(bt309.2.2.2.2.2.2.2.2.2.2.2.2.1 == x308012)))))))))))) x307000 x307001 x307002 x307003 x307004 x307005 x307006 x307007 x307008 x307009 x307010 x307011 x307012 x307013 x308000 x308001 x308002 x308003 x308004 x308005 x308006 x308007 x308008 x308009 x308010 x308011 x308012 bt309.1 bt309.2.1 bt309.2.2.1 bt309.2.2.2.1 bt309.2.2.2.2.1 bt309.2.2.2.2.2.1 bt309.2.2.2.2.2.2.1 bt309.2.2.2.2.2.2.2.1 bt309.2.2.2.2.2.2.2.2.1 bt309.2.2.2.2.2.2.2.2.2.1 bt309.2.2.2.2.2.2.2.2.2.2.1 bt309.2.2.2.2.2.2.2.2.2.2.2.1 bt309.2.2.2.2.2.2.2.2.2.2.2.2.1) else (hourglasslaw21_CallBounds.j2 k x2 x8 false x307000 x307001 x307002 x307003 x307004 x307005 x307006 x307007 x307008 x307009 x307010 x307011 x307012 x307013 x308000 x308001 x308002 x308003 x308004 x308005 x308006 x308007 x308008 x308009 x308010 x308011 x308012 bt309.1 bt309.2.1 bt309.2.2.1 bt309.2.2.2.1 bt309.2.2.2.2.1 bt309.2.2.2.2.2.1 bt309.2.2.2.2.2.2.1 bt309.2.2.2.2.2.2.2.1 bt309.2.2.2.2.2.2.2.2.1 bt309.2.2.2.2.2.2.2.2.2.1 bt309.2.2.2.2.2.2.2.2.2.2.1 bt309.2.2.2.2.2.2.2.2.2.2.2.1 bt309.2.2.2.2.2.2.2.2.2.2.2.2.1))) else (none)) else (none)) else (if x307008 < 1 then ((hourglasslaw21_awake.f k).bind fun t326 => (some t326)) else (if x308005 ≤ 1 then ((hourglasslaw21_awake.f k).bind fun t327 => (some t327)) else (if x308005 ≤ x307008 then ((hourglasslaw21_awake.f k).bind fun t328 => (some t328)) else (some false))))
def hourglasslaw21_CallBounds.j2 : Nat → List (S79) → Int → Bool → Int → Int → Int → Int → Int → Int → Int → Int → Int → Int → Int → Int → Int → List (List (S46)) → Int → Int → Int → Int → Int → Int → Int → Int → Int → Bool → Int → Int → Int → Int → Int → Int → Int → Int → Int → Int → Int → Int → Bool → Int → Int → Int → Option (Bool)
  | 0, _, _, _, _, _, _, _, _, _, _, _, _, _, _, _, _, _, _, _, _, _, _, _, _, _, _, _, _, _, _, _, _, _, _, _, _, _, _, _, _, _, _, _ => none
  | k + 1, x2, x8, x40, x307000, x307001, x307002, x307003, x307004, x307005, x307006, x307007, x307008, x307009, x307010, x307011, x307012, x307013, x308000, x308001, x308002, x308003, x308004, x308005, x308006, x308007, x308008, x308009, x308010, x308011, x308012, x324000, x324001, x324002, x324003, x324004, x324005, x324006, x324007, x324008, x324009, x324010, x324011, x324012 => if x40 = true then (some false) else (if 0 ≤ x8 then (if x8 < (x2.length : Int) then (if ((rd_T79 x2 x8).f0) ≥ 5 then (if ((rd_T79 x2 x8).f0) ≤ 7 then (if x308006 = 1 then (if x308009 = true then (hourglasslaw21_CallBounds.j3 k x2 x8 (x324006 != 3) x307000 x307001 x307002 x307003 x307004 x307005 x307006 x307007 x307008 x307009 x307010 x307011 x307012 x307013 x308000 x308001 x308002 x308003 x308004 x308005 x308006 x308007 x308008 x308009 x308010 x308011 x308012 x324000 x324001 x324002 x324003 x324004 x324005 x324006 x324007 x324008 x324009 x324010 x324011 x324012) else (if x308005 ≥ x307008 then (hourglasslaw21_CallBounds.j3 k x2 x8 (x324006 != 3) x307000 x307001 x307002 x307003 x307004 x307005 x307006 x307007 x307008 x307009 x307010 x307011 x307012 x307013 x308000 x308001 x308002 x308003 x308004 x308005 x308006 x308007 x308008 x308009 x308010 x308011 x308012 x324000 x324001 x324002 x324003 x324004 x324005 x324006 x324007 x324008 x324009 x324010 x324011 x324012) else (hourglasslaw21_CallBounds.j3 k x2 x8 false x307000 x307001 x307002 x307003 x307004 x307005 x307006 x307007 x307008 x307009 x307010 x307011 x307012 x307013 x308000 x308001 x308002 x308003 x308004 x308005 x308006 x308007 x308008 x308009 x308010 x308011 x308012 x324000 x324001 x324002 x324003 x324004 x324005 x324006 x324007 x324008 x324009 x324010 x324011 x324012))) else (hourglasslaw21_CallBounds.j3 k x2 x8 false x307000 x307001 x307002 x307003 x307004 x307005 x307006 x307007 x307008 x307009 x307010 x307011 x307012 x307013 x308000 x308001 x308002 x308003 x308004 x308005 x308006 x308007 x308008 x308009 x308010 x308011 x308012 x324000 x324001 x324002 x324003 x324004 x324005 x324006 x324007 x324008 x324009 x324010 x324011 x324012)) else (hourglasslaw21_CallBounds.j3 k x2 x8 false x307000 x307001 x307002 x307003 x307004 x307005 x307006 x307007 x307008 x307009 x307010 x307011 x307012 x307013 x308000 x308001 x308002 x308003 x308004 x308005 x308006 x308007 x308008 x308009 x308010 x308011 x308012 x324000 x324001 x324002 x324003 x324004 x324005 x324006 x324007 x324008 x324009 x324010 x324011 x324012)) else (hourglasslaw21_CallBounds.j3 k x2 x8 false x307000 x307001 x307002 x307003 x307004 x307005 x307006 x307007 x307008 x307009 x307010 x307011 x307012 x307013 x308000 x308001 x308002 x308003 x308004 x308005 x308006 x308007 x308008 x308009 x308010 x308011 x308012 x324000 x324001 x324002 x324003 x324004 x324005 x324006 x324007 x324008 x324009 x324010 x324011 x324012)) else (none)) else (none))
def hourglasslaw21_CallBounds.j3 : Nat → List (S79) → Int → Bool → Int → Int → Int → Int → Int → Int → Int → Int → Int → Int → Int → Int → Int → List (List (S46)) → Int → Int → Int → Int → Int → Int → Int → Int → Int → Bool → Int → Int → Int → Int → Int → Int → Int → Int → Int → Int → Int → Int → Bool → Int → Int → Int → Option (Bool)
  | 0, _, _, _, _, _, _, _, _, _, _, _, _, _, _, _, _, _, _, _, _, _, _, _, _, _, _, _, _, _, _, _, _, _, _, _, _, _, _, _, _, _, _, _ => none
  | k + 1, x2, x8, x75, x307000, x307001, x307002, x307003, x307004, x307005, x307006, x307007, x307008, x307009, x307010, x307011, x307012, x307013, x308000, x308001, x308002, x308003, x308004, x308005, x308006, x308007, x308008, x308009, x308010, x308011, x308012, x324000, x324001, x324002, x324003, x324004, x324005, x324006, x324007, x324008, x324009, x324010, x324011, x324012 => if x75 = true then (some false) else (if x324005 = x324012 then (if x324005 < x308005 then (some false) else (if x324005 > (wrap64 (x308005 + 1)) then (some false) else (if x324005 > 5 then (some false) else (if x324006 < 0 then (some false) else (if x324006 > 3 then (some false) else (if x308009 = true then (if x324009 = true then (hourglasslaw21_CallBounds.l0 k x2 (wrap64 (x8 + 1)) x307000 x307001 x307002 x307003 x307004 x307005 x307006 x307007 x307008 x307009 x307010 x307011 x307012 x307013 x324000 x324001 x324002 x324003 x324004 x324005 x324006 x324007 x324008 x324009 x324010 x324011 x324012) else (some false)) else (hourglasslaw21_CallBounds.l0 k x2 (wrap64 (x8 + 1)) x307000 x307001 x307002 x307003 x307004 x307005 x307006 x307007 x307008 x307009 x307010 x307011 x307012 x307013 x324000 x324001 x324002 x324003 x324004 x324005 x324006 x324007 x324008 x324009 x324010 x324011 x324012))))))) else (some false))
end
def hourglasslaw21_CallBounds.f (k : Nat) (a0_0 : Int) (a0_1 : Int) (a0_2 : Int) (a1_0 : Int) (a1_1 : Int) (a1_2 : Int) (a1_3 : Int) (a1_4 : Int) (a1_5 : Int) (a1_6 : Int) (a1_7 : Int) (a1_8 : Int) (a1_9 : Int) (a1_10 : Int) (a1_11 : Int) (a1_12 : Int) (l1_13 : List (List (S46))) (l2 : List (S79)) : Option (Bool) := hourglasslaw21_CallBounds.l0 k l2 0 a1_0 a1_1 a1_2 a1_3 a1_4 a1_5 a1_6 a1_7 a1_8 a1_9 a1_10 a1_11 a1_12 l1_13 a0_0 a0_1 a0_2 0 0 0 0 0 0 false 0 0 0
theorem hourglasslaw21_CallBounds.mono_l : ∀ k, (∀ y0 y1 y2 y3 y4 y5 y6 y7 y8 y9 y10 y11 y12 y13 y14 y15 y16 y17 y18 y19 y20 y21 y22 y23 y24 y25 y26 y27 y28, LeO (hourglasslaw21_CallBounds.l0 k y0 y1 y2 y3 y4 y5 y6 y7 y8 y9 y10 y11 y12 y13 y14 y15 y16 y17 y18 y19 y20 y21 y22 y23 y24 y25 y26 y27 y28) (hourglasslaw21_CallBounds.l0 (k + 1) y0 y1 y2 y3 y4 y5 y6 y7 y8 y9 y10 y11 y12 y13 y14 y15 y16 y17 y18 y19 y20 y21 y22 y23 y24 y25 y26 y27 y28)) ∧ (∀ y0 y1 y2 y3 y4 y5 y6 y7 y8 y9 y10 y11 y12 y13 y14 y15 y16 y17 y18 y19 y20 y21 y22 y23 y24 y25 y26 y27 y28 y29, LeO (hourglasslaw21_CallBounds.j1 k y0 y1 y2 y3 y4 y5 y6 y7 y8 y9 y10 y11 y12 y13 y14 y15 y16 y17 y18 y19 y20 y21 y22 y23 y24 y25 y26 y27 y28 y29) (hourglasslaw21_CallBounds.j1 (k + 1) y0 y1 y2 y3 y4 y5 y6 y7 y8 y9 y10 y11 y12 y13 y14 y15 y16 y17 y18 y19 y20 y21 y22 y23 y24 y25 y26 y27 y28 y29)) ∧ (∀ y0 y1 y2 y3 y4 y5 y6 y7 y8 y9 y10 y11 y12 y13 y14 y15 y16 y17 y18 y19 y20 y21 y22 y23 y24 y25 y26 y27 y28 y29 y30 y31 y32 y33 y34 y35 y36 y37 y38 y39 y40 y41 y42, LeO (hourglasslaw21_CallBounds.j2 k y0 y1 y2 y3 y4 y5 y6 y7 y8 y9 y10 y11 y12 y13 y14 y15 y16 y17 y18 y19 y20 y21 y22 y23 y24 y25 y26 y27 y28 y29 y30 y31 y32 y33 y34 y35 y36 y37 y38 y39 y40 y41 y42) (hourglasslaw21_CallBounds.j2 (k + 1) y0 y1 y2 y3 y4 y5 y6 y7 y8 y9 y10 y11 y12 y13 y14 y15 y16 y17 y18 y19 y20 y21 y22 y23 y24 y25 y26 y27 y28 y29 y30 y31 y32 y33 y34 y35 y36 y37 y38 y39 y40 y41 y42)) ∧ (∀ y0 y1 y2 y3 y4 y5 y6 y7 y8 y9 y10 y11 y12 y13 y14 y15 y16 y17 y18 y19 y20 y21 y22 y23 y24 y25 y26 y27 y28 y29 y30 y31 y32 y33 y34 y35 y36 y37 y38 y39 y40 y41 y42, LeO (hourglasslaw21_CallBounds.j3 k y0 y1 y2 y3 y4 y5 y6 y7 y8 y9 y10 y11 y12 y13 y14 y15 y16 y17 y18 y19 y20 y21 y22 y23 y24 y25 y26 y27 y28 y29 y30 y31 y32 y33 y34 y35 y36 y37 y38 y39 y40 y41 y42) (hourglasslaw21_CallBounds.j3 (k + 1) y0 y1 y2 y3 y4 y5 y6 y7 y8 y9 y10 y11 y12 y13 y14 y15 y16 y17 y18 y19 y20 y21 y22 y23 y24 y25 y26 y27 y28 y29 y30 y31 y32 y33 y34 y35 y36 y37 y38 y39 y40 y41 y42))
  | 0 => ⟨fun _ _ _ _ _ _ _ _ _ _ _ _ _ _ _ _ _ _ _ _ _ _ _ _ _ _ _ _ _ r h => by simp [hourglasslaw21_CallBounds.l0] at h, fun _ _ _ _ _ _ _ _ _ _ _ _ _ _ _ _ _ _ _ _ _ _ _ _ _ _ _ _ _ _ r h => by simp [hourglasslaw21_CallBounds.j1] at h, fun _ _ _ _ _ _ _ _ _ _ _ _ _ _ _ _ _ _ _ _ _ _ _ _ _ _ _ _ _ _ _ _ _ _ _ _ _ _ _ _ _ _ _ r h => by simp [hourglasslaw21_CallBounds.j2] at h, fun _ _ _ _ _ _ _ _ _ _ _ _ _ _ _ _ _ _ _ _ _ _ _ _ _ _ _ _ _ _ _ _ _ _ _ _ _ _ _ _ _ _ _ r h => by simp [hourglasslaw21_CallBounds.j3] at h⟩
  | k + 1 => by
    obtain ⟨ih0, ih1, ih2, ih3⟩ := hourglasslaw21_CallBounds.mono_l k
    refine ⟨?_, ?_, ?_, ?_⟩
    · intro y0 y1 y2 y3 y4 y5 y6 y7 y8 y9 y10 y11 y12 y13 y14 y15 y16 y17 y18 y19 y20 y21 y22 y23 y24 y25 y26 y27 y28
      unfold hourglasslaw21_CallBounds.l0
      repeat' first
      | (with_reducible exact ih0 _ _ _ _ _ _ _ _ _ _ _ _ _ _ _ _ _ _ _ _ _ _ _ _ _ _ _ _ _)
      | (with_reducible exact ih1 _ _ _ _ _ _ _ _ _ _ _ _ _ _ _ _ _ _ _ _ _ _ _ _ _ _ _ _ _ _)
      | (with_reducible exact ih2 _ _ _ _ _ _ _ _ _ _ _ _ _ _ _ _ _ _ _ _ _ _ _ _ _ _ _ _ _ _ _ _ _ _ _ _ _ _ _ _ _ _ _)
      | (with_reducible exact ih3 _ _ _ _ _ _ _ _ _ _ _ _ _ _ _ _ _ _ _ _ _ _ _ _ _ _ _ _ _ _ _ _ _ _ _ _ _ _ _ _ _ _ _)
      | (with_reducible exact hourglasslaw21_awake.mono _)
      | (with_reducible exact hourglasslaw21_step.mono _ _ _ _ _ _ _ _ _ _ _ _ _ _ _ _ _ _ _ _ _ _ _ _ _ _ _ _ _ _ _ _ _ _ _ _ _ _)
      | (with_reducible exact LeO.refl _)
      | (with_reducible exact LeO.none _)
      | (with_reducible refine LeO.ite ?_ ?_)
      | (with_reducible refine LeO.bind ?_ (fun _ => ?_))
      | exact ih0 _ _ _ _ _ _ _ _ _ _ _ _ _ _ _ _ _ _ _ _ _ _ _ _ _ _ _ _ _
      | exact ih1 _ _ _ _ _ _ _ _ _ _ _ _ _ _ _ _ _ _ _ _ _ _ _ _ _ _ _ _ _ _
      | exact ih2 _ _ _ _ _ _ _ _ _ _ _ _ _ _ _ _ _ _ _ _ _ _ _ _ _ _ _ _ _ _ _ _ _ _ _ _ _ _ _ _ _ _ _
      | exact ih3 _ _ _ _ _ _ _ _ _ _ _ _ _ _ _ _ _ _ _ _ _ _ _ _ _ _ _ _ _ _ _ _ _ _ _ _ _ _ _ _ _ _ _
      | exact hourglasslaw21_awake.mono _
      | exact hourglasslaw21_step.mono _ _ _ _ _ _ _ _ _ _ _ _ _ _ _ _ _ _ _ _ _ _ _ _ _ _ _ _ _ _ _ _ _ _ _ _ _ _
      | exact LeO.none _
      | refine LeO.ite ?_ ?_
      | refine LeO.bind ?_ (fun _ => ?_)
    · intro y0 y1 y2 y3 y4 y5 y6 y7 y8 y9 y10 y11 y12 y13 y14 y15 y16 y17 y18 y19 y20 y21 y22 y23 y24 y25 y26 y27 y28 y29
      unfold hourglasslaw21_CallBounds.j1
      repeat' first
      | (with_reducible exact ih0 _ _ _ _ _ _ _ _ _ _ _ _ _ _ _ _ _ _ _ _ _ _ _ _ _ _ _ _ _)
      | (with_reducible exact ih1 _ _ _ _ _ _ _ _ _ _ _ _ _ _ _ _ _ _ _ _ _ _ _ _ _ _ _ _ _ _)
      | (with_reducible exact ih2 _ _ _ _ _ _ _ _ _ _ _ _ _ _ _ _ _ _ _ _ _ _ _ _ _ _ _ _ _ _ _ _ _ _ _ _ _ _ _ _ _ _ _)
      | (with_reducible exact ih3 _ _ _ _ _ _ _ _ _ _ _ _ _ _ _ _ _ _ _ _ _ _ _ _ _ _ _ _ _ _ _ _ _ _ _ _ _ _ _ _ _ _ _)
      | (with_reducible exact hourglasslaw21_awake.mono _)
      | (with_reducible exact hourglasslaw21_step.mono _ _ _ _ _ _ _ _ _ _ _ _ _ _ _ _ _ _ _ _ _ _ _ _ _ _ _ _ _ _ _ _ _ _ _ _ _ _)
      | (with_reducible exact LeO.refl _)
      | (with_reducible exact LeO.none _)
      | (with_reducible refine LeO.ite ?_ ?_)
      | (with_reducible refine LeO.bind ?_ (fun _ => ?_))
      | exact ih0 _ _ _ _ _ _ _ _ _ _ _ _ _ _ _ _ _ _ _ _ _ _ _ _ _ _ _ _ _
      | exact ih1 _ _ _ _ _ _ _ _ _ _ _ _ _ _ _ _ _ _ _ _ _ _ _ _ _ _ _ _ _ _
      | exact ih2 _ _ _ _ _ _ _ _ _ _ _ _ _ _ _ _ _ _ _ _ _ _ _ _ _ _ _ _ _ _ _ _ _ _ _ _ _ _ _ _ _ _ _
      | exact ih3 _ _ _ _ _ _ _ _ _ _ _ _ _ _ _ _ _ _ _ _ _ _ _ _ _ _ _ _ _ _ _ _ _ _ _ _ _ _ _ _ _ _ _
      | exact hourglasslaw21_awake.mono _
      | exact hourglasslaw21_step.mono _ _ _ _ _ _ _ _ _ _ _ _ _ _ _ _ _ _ _ _ _ _ _ _ _ _ _ _ _ _ _ _ _ _ _ _ _ _
      | exact LeO.none _
      | refine LeO.ite ?_ ?_
      | refine LeO.bind ?_ (fun _ => ?_)
    · intro y0 y1 y2 y3 y4 y5 y6 y7 y8 y9 y10 y11 y12 y13 y14 y15 y16 y17 y18 y19 y20 y21 y22 y23 y24 y25 y26 y27 y28 y29 y30 y31 y32 y33 y34 y35 y36 y37 y38 y39 y40 y41 y42
      unfold hourglasslaw21_CallBounds.j2
      repeat' first
      | (with_reducible exact ih0 _ _ _ _ _ _ _ _ _ _ _ _ _ _ _ _ _ _ _ _ _ _ _ _ _ _ _ _ _)
      | (with_reducible exact ih1 _ _ _ _ _ _ _ _ _ _ _ _ _ _ _ _ _ _ _ _ _ _ _ _ _ _ _ _ _ _)
      | (with_reducible exact ih2 _ _ _ _ _ _ _ _ _ _ _ _ _ _ _ _ _ _ _ _ _ _ _ _ _ _ _ _ _ _ _ _ _ _ _ _ _ _ _ _ _ _ _)
      | (with_reducible exact ih3 _ _ _ _ _ _ _ _ _ _ _ _ _ _ _ _ _ _ _ _ _ _ _ _ _ _ _ _ _ _ _ _ _ _ _ _ _ _ _ _ _ _ _)
      | (with_reducible exact hourglasslaw21_awake.mono _)
      | (with_reducible exact hourglasslaw21_step.mono _ _ _ _ _ _ _ _ _ _ _ _ _ _ _ _ _ _ _ _ _ _ _ _ _ _ _ _ _ _ _ _ _ _ _ _ _ _)
      | (with_reducible exact LeO.refl _)
      | (with_reducible exact LeO.none _)
      | (with_reducible refine LeO.ite ?_ ?_)
      | (with_reducible refine LeO.bind ?_ (fun _ => ?_))
      | exact ih0 _ _ _ _ _ _ _ _ _ _ _ _ _ _ _ _ _ _ _ _ _ _ _ _ _ _ _ _ _
      | exact ih1 _ _ _ _ _ _ _ _ _ _ _ _ _ _ _ _ _ _ _ _ _ _ _ _ _ _ _ _ _ _
      | exact ih2 _ _ _ _ _ _ _ _ _ _ _ _ _ _ _ _ _ _ _ _ _ _ _ _ _ _ _ _ _ _ _ _ _ _ _ _ _ _ _ _ _ _ _
      | exact ih3 _ _ _ _ _ _ _ _ _ _ _ _ _ _ _ _ _ _ _ _ _ _ _ _ _ _ _ _ _ _ _ _ _ _ _ _ _ _ _ _ _ _ _
      | exact hourglasslaw21_awake.mono _
      | exact hourglasslaw21_step.mono _ _ _ _ _ _ _ _ _ _ _ _ _ _ _ _ _ _ _ _ _ _ _ _ _ _ _ _ _ _ _ _ _ _ _ _ _ _
      | exact LeO.none _
      | refine LeO.ite ?_ ?_
      | refine LeO.bind ?_ (fun _ => ?_)
    · intro y0 y1 y2 y3 y4 y5 y6 y7 y8 y9 y10 y11 y12 y13 y14 y15 y16 y17 y18 y19 y20 y21 y22 y23 y24 y25 y26 y27 y28 y29 y30 y31 y32 y33 y34 y35 y36 y37 y38 y39 y40 y41 y42
      unfold hourglasslaw21_CallBounds.j3
      repeat' first
      | (with_reducible exact ih0 _ _ _ _ _ _ _ _ _ _ _ _ _ _ _ _ _ _ _ _ _ _ _ _ _ _ _ _ _)
      | (with_reducible exact ih1 _ _ _ _ _ _ _ _ _ _ _ _ _ _ _ _ _ _ _ _ _ _ _ _ _ _ _ _ _ _)
      | (with_reducible exact ih2 _ _ _ _ _ _ _ _ _ _ _ _ _ _ _ _ _ _ _ _ _ _ _ _ _ _ _ _ _ _ _ _ _ _ _ _ _ _ _ _ _ _ _)
      | (with_reducible exact ih3 _ _ _ _ _ _ _ _ _ _ _ _ _ _ _ _ _ _ _ _ _ _ _ _ _ _ _ _ _ _ _ _ _ _ _ _ _ _ _ _ _ _ _)
      | (with_reducible exact hourglasslaw21_awake.mono _)
      | (with_reducible exact hourglasslaw21_step.mono _ _ _ _ _ _ _ _ _ _ _ _ _ _ _ _ _ _ _ _ _ _ _ _ _ _ _ _ _ _ _ _ _ _ _ _ _ _)
      | (with_reducible exact LeO.refl _)
      | (with_reducible exact LeO.none _)
      | (with_reducible refine LeO.ite ?_ ?_)
      | (with_reducible refine LeO.bind ?_ (fun _ => ?_))
      | exact ih0 _ _ _ _ _ _ _ _ _ _ _ _ _ _ _ _ _ _ _ _ _ _ _ _ _ _ _ _ _
      | exact ih1 _ _ _ _ _ _ _ _ _ _ _ _ _ _ _ _ _ _ _ _ _ _ _ _ _ _ _ _ _ _
      | exact ih2 _ _ _ _ _ _ _ _ _ _ _ _ _ _ _ _ _ _ _ _ _ _ _ _ _ _ _ _ _ _ _ _ _ _ _ _ _ _ _ _ _ _ _
      | exact ih3 _ _ _ _ _ _ _ _ _ _ _ _ _ _ _ _ _ _ _ _ _ _ _ _ _ _ _ _ _ _ _ _ _ _ _ _ _ _ _ _ _ _ _
      | exact hourglasslaw21_awake.mono _
      | exact hourglasslaw21_step.mono _ _ _ _ _ _ _ _ _ _ _ _ _ _ _ _ _ _ _ _ _ _ _ _ _ _ _ _ _ _ _ _ _ _ _ _ _ _
      | exact LeO.none _
      | refine LeO.ite ?_ ?_
      | refine LeO.bind ?_ (fun _ => ?_)
theorem hourglasslaw21_CallBounds.mono : ∀ a0 a1 a2 a3 a4 a5 a6 a7 a8 a9 a10 a11 a12 a13 a14 a15 a16 a17 k, LeO (hourglasslaw21_CallBounds.f k a0 a1 a2 a3 a4 a5 a6 a7 a8 a9 a10 a11 a12 a13 a14 a15 a16 a17) (hourglasslaw21_CallBounds.f (k + 1) a0 a1 a2 a3 a4 a5 a6 a7 a8 a9 a10 a11 a12 a13 a14 a15 a16 a17) := by
  intro a0 a1 a2 a3 a4 a5 a6 a7 a8 a9 a10 a11 a12 a13 a14 a15 a16 a17 k
  obtain ⟨ih0, ih1, ih2, ih3⟩ := hourglasslaw21_CallBounds.mono_l k
  unfold hourglasslaw21_CallBounds.f
  repeat' first
      | (with_reducible exact ih0 _ _ _ _ _ _ _ _ _ _ _ _ _ _ _ _ _ _ _ _ _ _ _ _ _ _ _ _ _)
      | (with_reducible exact ih1 _ _ _ _ _ _ _ _ _ _ _ _ _ _ _ _ _ _ _ _ _ _ _ _ _ _ _ _ _ _)
      | (with_reducible exact ih2 _ _ _ _ _ _ _ _ _ _ _ _ _ _ _ _ _ _ _ _ _ _ _ _ _ _ _ _ _ _ _ _ _ _ _ _ _ _ _ _ _ _ _)
      | (with_reducible exact ih3 _ _ _ _ _ _ _ _ _ _ _ _ _ _ _ _ _ _ _ _ _ _ _ _ _ _ _ _ _ _ _ _ _ _ _ _ _ _ _ _ _ _ _)
      | (with_reducible exact hourglasslaw21_awake.mono _)
      | (with_reducible exact hourglasslaw21_step.mono _ _ _ _ _ _ _ _ _ _ _ _ _ _ _ _ _ _ _ _ _ _ _ _ _ _ _ _ _ _ _ _ _ _ _ _ _ _)
      | (with_reducible exact LeO.refl _)
      | (with_reducible exact LeO.none _)
      | (with_reducible refine LeO.ite ?_ ?_)
      | (with_reducible refine LeO.bind ?_ (fun _ => ?_))
      | exact ih0 _ _ _ _ _ _ _ _ _ _ _ _ _ _ _ _ _ _ _ _ _ _ _ _ _ _ _ _ _
      | exact ih1 _ _ _ _ _ _ _ _ _ _ _ _ _ _ _ _ _ _ _ _ _ _ _ _ _ _ _ _ _ _
      | exact ih2 _ _ _ _ _ _ _ _ _ _ _ _ _ _ _ _ _ _ _ _ _ _ _ _ _ _ _ _ _ _ _ _ _ _ _ _ _ _ _ _ _ _ _
      | exact ih3 _ _ _ _ _ _ _ _ _ _ _ _ _ _ _ _ _ _ _ _ _ _ _ _ _ _ _ _ _ _ _ _ _ _ _ _ _ _ _ _ _ _ _
      | exact hourglasslaw21_awake.mono _
      | exact hourglasslaw21_step.mono _ _ _ _ _ _ _ _ _ _ _ _ _ _ _ _ _ _ _ _ _ _ _ _ _ _ _ _ _ _ _ _ _ _ _ _ _ _
      | exact LeO.none _
      | refine LeO.ite ?_ ?_
      | refine LeO.bind ?_ (fun _ => ?_)
def hourglasslaw21_CallBounds.T5 : Bool × List (List Nat × List Nat) := (true, [([], []), ([], []), ([], []), ([], []), ([2, 3], [2, 3]), ([4], [4]), ([0, 1, 5], [0, 1, 5]), ([6], [6]), ([7], [7]), ([7], [7]), ([], []), ([10, 8, 6, 0, 1, 2, 3, 4, 5, 6, 7, 8, 10], [8, 10]), ([9, 11, 0, 1, 2, 3, 4, 5, 6, 7, 8, 9, 10, 11], [9])])
def hourglasslaw21_CallBounds.B5 : List Nat := [0, 0, 0, 0, 12, 28, 63, 127, 255, 255, 0, 1535, 4095]
theorem hourglasslaw21_CallBounds.tab5 : rtab .any (opsOf Try.f8 5) = hourglasslaw21_CallBounds.T5 := by kernel_rfl
theorem hourglasslaw21_CallBounds.bits5 : waitsOk hourglasslaw21_CallBounds.T5.2 hourglasslaw21_CallBounds.B5 = true := by kernel_rfl
theorem hourglasslaw21_CallBounds.j2_no : ∀ k y0 y1 y3 y4 y5 y6 y7 y8 y9 y10 y11 y12 y13 y14 y15 y16 y17 y18 y19 y20 y21 y22 y23 y24 y25 y26 y27 y28 y29 y30 y31 y32 y33 y34 y35 y36 y37 y38 y39 y40 y41 y42, hourglasslaw21_CallBounds.j2 k y0 y1 true y3 y4 y5 y6 y7 y8 y9 y10 y11 y12 y13 y14 y15 y16 y17 y18 y19 y20 y21 y22 y23 y24 y25 y26 y27 y28 y29 y30 y31 y32 y33 y34 y35 y36 y37 y38 y39 y40 y41 y42 ≠ some true := by
  intro k y0 y1 y3 y4 y5 y6 y7 y8 y9 y10 y11 y12 y13 y14 y15 y16 y17 y18 y19 y20 y21 y22 y23 y24 y25 y26 y27 y28 y29 y30 y31 y32 y33 y34 y35 y36 y37 y38 y39 y40 y41 y42; cases k <;> simp [hourglasslaw21_CallBounds.j2]
theorem hourglasslaw21_CallBounds.j3_no : ∀ k y0 y1 y3 y4 y5 y6 y7 y8 y9 y10 y11 y12 y13 y14 y15 y16 y17 y18 y19 y20 y21 y22 y23 y24 y25 y26 y27 y28 y29 y30 y31 y32 y33 y34 y35 y36 y37 y38 y39 y40 y41 y42, hourglasslaw21_CallBounds.j3 k y0 y1 true y3 y4 y5 y6 y7 y8 y9 y10 y11 y12 y13 y14 y15 y16 y17 y18 y19 y20 y21 y22 y23 y24 y25 y26 y27 y28 y29 y30 y31 y32 y33 y34 y35 y36 y37 y38 y39 y40 y41 y42 ≠ some true := by
  intro k y0 y1 y3 y4 y5 y6 y7 y8 y9 y10 y11 y12 y13 y14 y15 y16 y17 y18 y19 y20 y21 y22 y23 y24 y25 y26 y27 y28 y29 y30 y31 y32 y33 y34 y35 y36 y37 y38 y39 y40 y41 y42; cases k <;> simp [hourglasslaw21_CallBounds.j3]
set_option maxHeartbeats 40000000 in
set_option maxRecDepth 100000 in
theorem hourglasslaw21_CallBounds.calls (k : Nat) (a0_0 : Int) (a0_1 : Int) (a0_2 : Int) (a1_0 : Int) (a1_1 : Int) (a1_2 : Int) (a1_3 : Int) (a1_4 : Int) (a1_5 : Int) (a1_6 : Int) (a1_7 : Int) (a1_8 : Int) (a1_9 : Int) (a1_10 : Int) (a1_11 : Int) (a1_12 : Int) (A1_13 : Option Addr) (c1_13 : Nat) (l1_13 : List (List (S46))) (A2 : Option Addr) (c2 : Nat) (l2 : List (S79)) (r : Bool) (w : World) (hr1_13 : Kd.C (Kd.slice 46 k46) w A1_13 l1_13.length l1_13) (hc1_13 : l1_13.length ≤ c1_13) (hr2 : Kd.C k79 w A2 l2.length l2) (hc2 : l2.length ≤ c2) (h : hourglasslaw21_CallBounds.f k a0_0 a0_1 a0_2 a1_0 a1_1 a1_2 a1_3 a1_4 a1_5 a1_6 a1_7 a1_8 a1_9 a1_10 a1_11 a1_12 l1_13 l2 = some r) (hrT : r = true) :
    Calls Try.prog 8 #[.agg #[.int .i64 a0_0, .int .i64 a0_1, .int .i64 a0_2], .agg #[.int .i64 a1_0, .int .i64 a1_1, .int .i64 a1_2, .int .i64 a1_3, .int .i64 a1_4, .int .i64 a1_5, .int .i64 a1_6, .int .i64 a1_7, .int .i64 a1_8, .int .i64 a1_9, .int .i64 a1_10, .int .i64 a1_11, .int .i64 a1_12, .slice A1_13 l1_13.length c1_13], .slice A2 l2.length c2] w fun e w' => e = .returned (.bool r) ∧ Below w.heap.size w w' := by
  have HRT := Aside0.mk hrT
  clear hrT
  have hu23 := Try.underlying23
  have hu72 := Try.underlying72
  have hu58 := Try.underlying58
  have hu79 := Try.underlying79
  have HR1_13 := Aside0.mk hr1_13
  have HC1_13 := Aside0.mk hc1_13
  clear hr1_13 hc1_13
  have HR2 := Aside0.mk hr2
  have HC2 := Aside0.mk hc2
  clear hr2 hc2
  have HB := Aside0.mk (Below.refl w.heap.size w)
  have H : (hourglasslaw21_CallBounds.l0 k l2 0 a1_0 a1_1 a1_2 a1_3 a1_4 a1_5 a1_6 a1_7 a1_8 a1_9 a1_10 a1_11 a1_12 l1_13 a0_0 a0_1 a0_2 0 0 0 0 0 0 false 0 0 0) = some r := h
  clear h
  have H' := Aside0.mk H
  clear H
  go_enter Try.func8, Try.ntmps8
  go_wp2_with (first | ((with_reducible refine gate_dst (N := 3) rfl ?_); refine box_event ?hg (N := 3) ?hd (cs := #[.int .i64 a0_0, .int .i64 a0_1, .int .i64 a0_2]) (t := 23) ?hr ?_; (case hd => rfl); (case hg => rfl); (case hr => first | (go_simp; done) | (go_simp; rfl)); intro gb305 hg w4 hbox hb; have n0_ := Aside0.mk (below_step (by repeat (first | (with_reducible first | exact HB.out | apply pA | apply pN | apply pD) | exact HB.out)) hb); have n1_ := Aside0.mk (hbox); have n2_ := Aside0.mk ((by rw [hg]; exact (below_size (by repeat (first | (with_reducible first | exact HB.out | apply pA | apply pN | apply pD) | exact HB.out))) : w.heap.size ≤ gb305)); have n3_ := Aside0.mk ((by rw [hg]; exact (below_size (by repeat (first | (with_reducible first | exact HB.out | apply pA | apply pN | apply pD) | exact HB.out))) : w.heap.size ≤ gb305)); clear HB; have HB := n0_; have BK305 := n1_; have GW305 := n2_; have GE305 := n3_; clear n0_ n1_ n2_ n3_; clear hb hbox hg) | ((with_reducible refine gate_dst (N := 4) rfl ?_); refine box_event ?hg (N := 4) ?hd (cs := #[.int .i64 a1_0, .int .i64 a1_1, .int .i64 a1_2, .int .i64 a1_3, .int .i64 a1_4, .int .i64 a1_5, .int .i64 a1_6, .int .i64 a1_7, .int .i64 a1_8, .int .i64 a1_9, .int .i64 a1_10, .int .i64 a1_11, .int .i64 a1_12, .slice A1_13 l1_13.length c1_13]) (t := 72) ?hr ?_; (case hd => rfl); (case hg => rfl); (case hr => first | (go_simp; done) | (go_simp; rfl)); intro gb306 hg w5 hbox hb; have n0_ := Aside0.mk (blk_below (g := gb305) (by (with_reducible repeat (first | refine bN ?_ _ | refine bD ?_ | refine bA ?_ _)); exact BK305.out) hb); have n1_ := Aside0.mk (below_step (by repeat (first | (with_reducible first | exact HB.out | apply pA | apply pN | apply pD | refine pS ?_ GE305.out) | exact HB.out)) hb); have n2_ := Aside0.mk (hbox); have n3_ := Aside0.mk ((by rw [hg]; exact (below_size (by repeat (first | (with_reducible first | exact HB.out | apply pA | apply pN | apply pD | refine pS ?_ GE305.out) | exact HB.out))) : w.heap.size ≤ gb306)); have n4_ := Aside0.mk ((by rw [hg]; exact (below_size (by repeat (first | (with_reducible first | exact HB.out | apply pA | apply pN | apply pD | refine pS ?_ GE305.out) | exact HB.out))) : w.heap.size ≤ gb306)); have n5_ := Aside0.mk ((by rw [hg]; exact Nat.ne_of_lt (blk_lt (g := gb305) (by (with_reducible repeat (first | refine bN ?_ _ | refine bD ?_ | refine bA ?_ _)); exact BK305.out)) : gb305 ≠ gb306)); have n6_ := Aside0.mk n5_.out.symm; clear BK305; clear HB; have BK305 := n0_; have HB := n1_; have BK306 := n2_; have GW306 := n3_; have GE306 := n4_; have NB305_306 := n5_; have NB306_305 := n6_; clear n0_ n1_ n2_ n3_ n4_ n5_ n6_; clear hb hbox hg; have hnb6 := NB305_306.out; have hnc6 := NB306_305.out; obtain ⟨hcz7_0, hcz7_1, hcz7_2⟩ := bc3 BK305.out; obtain ⟨hfz7_0, hfz7_1, hfz7_2⟩ := bf3 BK305.out) | ((with_reducible refine gate_dst (N := 7) rfl ?_); refine box_event ?hg (N := 7) ?hd (cs := #[.int .i64 0, .int .i64 0, .int .i64 0, .int .i64 0, .int .i64 0, .int .i64 0, .int .i64 0, .int .i64 0, .int .i64 0, .bool false, .int .i64 0, .int .i64 0, .int .i64 0]) (t := 58) ?hr ?_; (case hd => rfl); (case hg => rfl); (case hr => first | (go_simp; done) | (go_simp; rfl)); intro gb307 hg w8 hbox hb; have n0_ := Aside0.mk (blk_below (g := gb305) (by (with_reducible repeat (first | refine bN ?_ _ | refine bD ?_ | refine bA ?_ _)); exact BK305.out) hb); have n1_ := Aside0.mk (blk_below (g := gb306) (by (with_reducible repeat (first | refine bN ?_ _ | refine bD ?_ | refine bA ?_ _)); exact BK306.out) hb); have n2_ := Aside0.mk (below_step (by repeat (first | (with_reducible first | exact HB.out | apply pA | apply pN | apply pD | refine pS ?_ GE305.out | refine pS ?_ GE306.out) | exact HB.out)) hb); have n3_ := Aside0.mk (hbox); have n4_ := Aside0.mk ((by rw [hg]; exact (below_size (by repeat (first | (with_reducible first | exact HB.out | apply pA | apply pN | apply pD | refine pS ?_ GE305.out | refine pS ?_ GE306.out) | exact HB.out))) : w.heap.size ≤ gb307)); have n5_ := Aside0.mk ((by rw [hg]; exact (below_size (by repeat (first | (with_reducible first | exact HB.out | apply pA | apply pN | apply pD | refine pS ?_ GE305.out | refine pS ?_ GE306.out) | exact HB.out))) : w.heap.size ≤ gb307)); have n6_ := Aside0.mk ((by rw [hg]; exact Nat.ne_of_lt (blk_lt (g := gb305) (by (with_reducible repeat (first | refine bN ?_ _ | refine bD ?_ | refine bA ?_ _)); exact BK305.out)) : gb305 ≠ gb307)); have n7_ := Aside0.mk n6_.out.symm; have n8_ := Aside0.mk ((by rw [hg]; exact Nat.ne_of_lt (blk_lt (g := gb306) (by (with_reducible repeat (first | refine bN ?_ _ | refine bD ?_ | refine bA ?_ _)); exact BK306.out)) : gb306 ≠ gb307)); have n9_ := Aside0.mk n8_.out.symm; clear BK305; clear BK306; clear HB; have BK305 := n0_; have BK306 := n1_; have HB := n2_; have BK307 := n3_; have GW307 := n4_; have GE307 := n5_; have NB305_307 := n6_; have NB307_305 := n7_; have NB306_307 := n8_; have NB307_306 := n9_; clear n0_ n1_ n2_ n3_ n4_ n5_ n6_ n7_ n8_ n9_; clear hb hbox hg; have hnb9 := NB307_305.out; have hnc9 := NB305_307.out; have hnb10 := NB307_306.out; have hnc10 := NB306_307.out; obtain ⟨hcz11_0, hcz11_1, hcz11_2, hcz11_3, hcz11_4, hcz11_5, hcz11_6, hcz11_7, hcz11_8, hcz11_9, hcz11_10, hcz11_11, hcz11_12⟩ := bc13 BK307.out; obtain ⟨hfz11_0, hfz11_1, hfz11_2, hfz11_3, hfz11_4, hfz11_5, hfz11_6, hfz11_7, hfz11_8, hfz11_9, hfz11_10, hfz11_11, hfz11_12⟩ := bf13 BK307.out))
  go_loopg [8] k (fun kq v8 w' => ∃ (x8_1 : Int) (x308000_1 : Int) (x308001_1 : Int) (x308002_1 : Int) (x308003_1 : Int) (x308004_1 : Int) (x308005_1 : Int) (x308006_1 : Int) (x308007_1 : Int) (x308008_1 : Int) (x308009_1 : Bool) (x308010_1 : Int) (x308011_1 : Int) (x308012_1 : Int), v8 = .int .i64 x8_1 ∧ Aside0 (hourglasslaw21_CallBounds.l0 kq l2 x8_1 a1_0 a1_1 a1_2 a1_3 a1_4 a1_5 a1_6 a1_7 a1_8 a1_9 a1_10 a1_11 a1_12 l1_13 x308000_1 x308001_1 x308002_1 x308003_1 x308004_1 x308005_1 x308006_1 x308007_1 x308008_1 x308009_1 x308010_1 x308011_1 x308012_1 = some r) ∧ Aside0 (kq ≤ k) ∧ Aside0 (w'.heap[gb305]? = some (.cells #[.int .i64 a0_0, .int .i64 a0_1, .int .i64 a0_2] 23 (0, 0))) ∧ Aside0 (w'.heap[gb306]? = some (.cells #[.int .i64 a1_0, .int .i64 a1_1, .int .i64 a1_2, .int .i64 a1_3, .int .i64 a1_4, .int .i64 a1_5, .int .i64 a1_6, .int .i64 a1_7, .int .i64 a1_8, .int .i64 a1_9, .int .i64 a1_10, .int .i64 a1_11, .int .i64 a1_12, (.slice A1_13 l1_13.length c1_13)] 72 (0, 0))) ∧ Aside0 (w'.heap[gb307]? = some (.cells #[.int .i64 x308000_1, .int .i64 x308001_1, .int .i64 x308002_1, .int .i64 x308003_1, .int .i64 x308004_1, .int .i64 x308005_1, .int .i64 x308006_1, .int .i64 x308007_1, .int .i64 x308008_1, .bool x308009_1, .int .i64 x308010_1, .int .i64 x308011_1, .int .i64 x308012_1] 58 (0, 0))) ∧ Aside0 (Below w.heap.size w w'))
  case atStart => exact ⟨(0), (a0_0), (a0_1), (a0_2), (0), (0), (0), (0), (0), (0), (false), (0), (0), (0), (by first | rfl | (simp; done) | (simp [*]; done)), H', ⟨Nat.le_refl _⟩, ⟨by (iterate 13 ((with_reducible repeat (first | refine bN ?_ _ | refine bD ?_ | refine bA ?_ _)); refine blk_far ?_ NB305_307.out _)); (with_reducible repeat (first | refine bN ?_ _ | refine bD ?_ | refine bA ?_ _)); exact BK305.out⟩, ⟨by (iterate 13 ((with_reducible repeat (first | refine bN ?_ _ | refine bD ?_ | refine bA ?_ _)); refine blk_far ?_ NB306_307.out _)); (with_reducible repeat (first | refine bN ?_ _ | refine bD ?_ | refine bA ?_ _)); exact BK306.out⟩, ⟨by (with_reducible repeat (first | refine bN ?_ _ | refine bD ?_ | refine bA ?_ _)); apply bq; (with_reducible repeat (first | refine bN ?_ _ | refine bD ?_ | refine bA ?_ _)); apply bq; (with_reducible repeat (first | refine bN ?_ _ | refine bD ?_ | refine bA ?_ _)); apply bq; (with_reducible repeat (first | refine bN ?_ _ | refine bD ?_ | refine bA ?_ _)); apply bq; (with_reducible repeat (first | refine bN ?_ _ | refine bD ?_ | refine bA ?_ _)); apply bq; (with_reducible repeat (first | refine bN ?_ _ | refine bD ?_ | refine bA ?_ _)); apply bq; (with_reducible repeat (first | refine bN ?_ _ | refine bD ?_ | refine bA ?_ _)); apply bq; (with_reducible repeat (first | refine bN ?_ _ | refine bD ?_ | refine bA ?_ _)); apply bq; (with_reducible repeat (first | refine bN ?_ _ | refine bD ?_ | refine bA ?_ _)); apply bq; (with_reducible repeat (first | refine bN ?_ _ | refine bD ?_ | refine bA ?_ _)); apply bq; (with_reducible repeat (first | refine bN ?_ _ | refine bD ?_ | refine bA ?_ _)); apply bq; (with_reducible repeat (first | refine bN ?_ _ | refine bD ?_ | refine bA ?_ _)); apply bq; (with_reducible repeat (first | refine bN ?_ _ | refine bD ?_ | refine bA ?_ _)); apply bq; (with_reducible repeat (first | refine bN ?_ _ | refine bD ?_ | refine bA ?_ _)); exact BK307.out; all_goals rfl⟩, ⟨by repeat (first | (with_reducible first | exact HB.out | apply pA | apply pN | apply pD | refine pS ?_ GE305.out | refine pS ?_ GE306.out | refine pS ?_ GE307.out) | exact HB.out)⟩⟩
  case round =>
    clear H'
    try clear c1
    try clear c2
    try clear p2
    try clear c6
    try clear c8
    try clear c9
    try clear c10
    try clear hcz11_0
    try clear hcz11_1
    try clear hcz11_10
    try clear hcz11_11
    try clear hcz11_12
    try clear hcz11_2
    try clear hcz11_3
    try clear hcz11_4
    try clear hcz11_5
    try clear hcz11_6
    try clear hcz11_7
    try clear hcz11_8
    try clear hcz11_9
    try clear hcz7_0
    try clear hcz7_1
    try clear hcz7_2
    try clear hfz11_0
    try clear hfz11_1
    try clear hfz11_10
    try clear hfz11_11
    try clear hfz11_12
    try clear hfz11_2
    try clear hfz11_3
    try clear hfz11_4
    try clear hfz11_5
    try clear hfz11_6
    try clear hfz11_7
    try clear hfz11_8
    try clear hfz11_9
    try clear hfz7_0
    try clear hfz7_1
    try clear hfz7_2
    obtain ⟨x8_1, x308000_1, x308001_1, x308002_1, x308003_1, x308004_1, x308005_1, x308006_1, x308007_1, x308008_1, x308009_1, x308010_1, x308011_1, x308012_1, rfl, HA, HK1, BK305, BK306, BK307, HB⟩ := hrel
    cases gk with
    | zero => exact absurd HA.out (by simp [hourglasslaw21_CallBounds.l0])
    | succ k1 =>
      have H := HA.out
      clear HA
      simp only [hourglasslaw21_CallBounds.l0] at H
      have HC12 := Aside0.mk H
      clear H
      go_upto_region 3 with (fail)
      go_cut [20] (fun v20 wc => ∃ (kq : Nat) (x20_11 : Bool), v20 = .bool x20_11 ∧ Aside0 (hourglasslaw21_CallBounds.j1 kq l2 x8_1 x20_11 a1_0 a1_1 a1_2 a1_3 a1_4 a1_5 a1_6 a1_7 a1_8 a1_9 a1_10 a1_11 a1_12 l1_13 x308000_1 x308001_1 x308002_1 x308003_1 x308004_1 x308005_1 x308006_1 x308007_1 x308008_1 x308009_1 x308010_1 x308011_1 x308012_1 = some r) ∧ Aside0 (kq ≤ k1) ∧ Aside0 (wc.heap[gb305]? = some (.cells #[.int .i64 a0_0, .int .i64 a0_1, .int .i64 a0_2] 23 (0, 0))) ∧ Aside0 (wc.heap[gb306]? = some (.cells #[.int .i64 a1_0, .int .i64 a1_1, .int .i64 a1_2, .int .i64 a1_3, .int .i64 a1_4, .int .i64 a1_5, .int .i64 a1_6, .int .i64 a1_7, .int .i64 a1_8, .int .i64 a1_9, .int .i64 a1_10, .int .i64 a1_11, .int .i64 a1_12, (.slice A1_13 l1_13.length c1_13)] 72 (0, 0))) ∧ Aside0 (wc.heap[gb307]? = some (.cells #[.int .i64 x308000_1, .int .i64 x308001_1, .int .i64 x308002_1, .int .i64 x308003_1, .int .i64 x308004_1, .int .i64 x308005_1, .int .i64 x308006_1, .int .i64 x308007_1, .int .i64 x308008_1, .bool x308009_1, .int .i64 x308010_1, .int .i64 x308011_1, .int .i64 x308012_1] 58 (0, 0))) ∧ Aside0 (Below w.heap.size w wc))
      case first =>
        have H := HC12.out
        clear HC12
        by_cases c13 : x8_1 < (l2.length : Int)
        · rw [if_pos c13] at H
          have c13b0 : decide (x8_1 < (l2.length : Int)) = true := decide_eq_true c13
          clear c13
          (first | rw [c13b0] | (simp only [i64_w, i32_w]; rw [c13b0]) | skip)
          have H' := Aside0.mk H
          clear H
          go_wp2
          go_meet
          case rel => exact ⟨_, (decide (x8_1 < 40)), (by first | rfl | (simp; done) | (simp [*]; done)), H', ⟨by have := HK1.out; first | omega | exact Nat.le_refl _⟩, ⟨by (with_reducible repeat (first | refine bN ?_ _ | refine bD ?_ | refine bA ?_ _)); exact BK305.out⟩, ⟨by (with_reducible repeat (first | refine bN ?_ _ | refine bD ?_ | refine bA ?_ _)); exact BK306.out⟩, ⟨by (with_reducible repeat (first | refine bN ?_ _ | refine bD ?_ | refine bA ?_ _)); exact BK307.out⟩, ⟨by repeat (first | (with_reducible first | exact HB.out | apply pA | apply pN | apply pD | refine pS ?_ GE305.out | refine pS ?_ GE306.out | refine pS ?_ GE307.out) | exact HB.out)⟩⟩
        · rw [if_neg c13] at H
          have c13b0 : decide (x8_1 < (l2.length : Int)) = false := decide_eq_false c13
          clear c13
          (first | rw [c13b0] | (simp only [i64_w, i32_w]; rw [c13b0]) | skip)
          have H' := Aside0.mk H
          clear H
          go_wp2
          go_meet
          case rel => exact ⟨_, (false), (by first | rfl | (simp; done) | (simp [*]; done)), H', ⟨by have := HK1.out; first | omega | exact Nat.le_refl _⟩, ⟨by (with_reducible repeat (first | refine bN ?_ _ | refine bD ?_ | refine bA ?_ _)); exact BK305.out⟩, ⟨by (with_reducible repeat (first | refine bN ?_ _ | refine bD ?_ | refine bA ?_ _)); exact BK306.out⟩, ⟨by (with_reducible repeat (first | refine bN ?_ _ | refine bD ?_ | refine bA ?_ _)); exact BK307.out⟩, ⟨by repeat (first | (with_reducible first | exact HB.out | apply pA | apply pN | apply pD | refine pS ?_ GE305.out | refine pS ?_ GE306.out | refine pS ?_ GE307.out) | exact HB.out)⟩⟩
      case rest =>
        clear HC12
        try clear c1
        try clear c2
        try clear p2
        try clear c6
        try clear c8
        try clear c9
        try clear c10
        try clear c13
        try clear c13b0
        try clear hcz11_0
        try clear hcz11_1
        try clear hcz11_10
        try clear hcz11_11
        try clear hcz11_12
        try clear hcz11_2
        try clear hcz11_3
        try clear hcz11_4
        try clear hcz11_5
        try clear hcz11_6
        try clear hcz11_7
        try clear hcz11_8
        try clear hcz11_9
        try clear hcz7_0
        try clear hcz7_1
        try clear hcz7_2
        try clear hfz11_0
        try clear hfz11_1
        try clear hfz11_10
        try clear hfz11_11
        try clear hfz11_12
        try clear hfz11_2
        try clear hfz11_3
        try clear hfz11_4
        try clear hfz11_5
        try clear hfz11_6
        try clear hfz11_7
        try clear hfz11_8
        try clear hfz11_9
        try clear hfz7_0
        try clear hfz7_1
        try clear hfz7_2
        try clear p2
        obtain ⟨kq, x20_11, rfl, HA, HJ11, BK305, BK306, BK307, HB⟩ := hcut
        cases kq with
        | zero => exact absurd HA.out (by simp [hourglasslaw21_CallBounds.j1])
        | succ kj11 =>
          have H := HA.out
          clear HA
          simp only [hourglasslaw21_CallBounds.j1] at H
          by_cases c14 : x20_11 = true
          · subst c14
            have H1 : (if 0 ≤ x8_1 then (if x8_1 < (l2.length : Int) then ((hourglasslaw21_step.f kj11 x308000_1 x308001_1 x308002_1 x308003_1 x308004_1 x308005_1 x308006_1 x308007_1 x308008_1 x308009_1 x308010_1 x308011_1 x308012_1 a1_0 a1_1 a1_2 a1_3 a1_4 a1_5 a1_6 a1_7 a1_8 a1_9 a1_10 a1_11 a1_12 l1_13 ((rd_T79 l2 x8_1).f0) ((rd_T79 l2 x8_1).f1) ((rd_T79 l2 x8_1).f2.f0) ((rd_T79 l2 x8_1).f2.f1) ((rd_T79 l2 x8_1).f2.f2) ((rd_T79 l2 x8_1).f2.f3) ((rd_T79 l2 x8_1).f2.f4) ((rd_T79 l2 x8_1).f2.f5) ((rd_T79 l2 x8_1).f2.f6) ((rd_T79 l2 x8_1).f2.f7)).bind fun bt309 => (if x308006_1 = 3 then (hourglasslaw21_CallBounds.j2 kj11 l2 x8_1 ((!(bt309.1 == x308000_1) || (!(bt309.2.1 == x308001_1) || (!(bt309.2.2.1 == x308002_1)))) || (!(bt309.2.2.2.1 == x308003_1) || (!(bt309.2.2.2.2.1 == x308004_1) || (!(bt309.2.2.2.2.2.1 == x308005_1) || (!(bt309.2.2.2.2.2.2.1 == x308006_1) || (!(bt309.2.2.2.2.2.2.2.1 == x308007_1) || (!(bt309.2.2.2.2.2.2.2.2.1 == x308008_1) || (!(bt309.2.2.2.2.2.2.2.2.2.1 == x308009_1) || (!(bt309.2.2.2.2.2.2.2.2.2.2.1 == x308010_1) || (!(bt309.2.2.2.2.2.2.2.2.2.2.2.1 == x308011_1) || (!(bt309.2.2.2.2.2.2.2.2.2.2.2.2.1 == x308012_1)))))))))))) a1_0 a1_1 a1_2 a1_3 a1_4 a1_5 a1_6 a1_7 a1_8 a1_9 a1_10 a1_11 a1_12 l1_13 x308000_1 x308001_1 x308002_1 x308003_1 x308004_1 x308005_1 x308006_1 x308007_1 x308008_1 x308009_1 x308010_1 x308011_1 x308012_1 bt309.1 bt309.2.1 bt309.2.2.1 bt309.2.2.2.1 bt309.2.2.2.2.1 bt309.2.2.2.2.2.1 bt309.2.2.2.2.2.2.1 bt309.2.2.2.2.2.2.2.1 bt309.2.2.2.2.2.2.2.2.1 bt309.2.2.2.2.2.2.2.2.2.1 bt309.2.2.2.2.2.2.2.2.2.2.1 bt309.2.2.2.2.2.2.2.2.2.2.2.1 bt309.2.2.2.2.2.2.2.2.2.2.2.2.1) else (hourglasslaw21_CallBounds.j2 kj11 l2 x8_1 false a1_0 a1_1 a1_2 a1_3 a1_4 a1_5 a1_6 a1_7 a1_8 a1_9 a1_10 a1_11 a1_12 l1_13 x308000_1 x308001_1 x308002_1 x308003_1 x308004_1 x308005_1 x308006_1 x308007_1 x308008_1 x308009_1 x308010_1 x308011_1 x308012_1 bt309.1 bt309.2.1 bt309.2.2.1 bt309.2.2.2.1 bt309.2.2.2.2.1 bt309.2.2.2.2.2.1 bt309.2.2.2.2.2.2.1 bt309.2.2.2.2.2.2.2.1 bt309.2.2.2.2.2.2.2.2.1 bt309.2.2.2.2.2.2.2.2.2.1 bt309.2.2.2.2.2.2.2.2.2.2.1 bt309.2.2.2.2.2.2.2.2.2.2.2.1 bt309.2.2.2.2.2.2.2.2.2.2.2.2.1))) else (none)) else (none)) = some r := by rw [if_pos rfl] at H; exact H
            clear H
            have H := H1
            clear H1
            by_cases c15 : 0 ≤ x8_1
            · rw [if_pos c15] at H
              have c15b0 : decide (0 ≤ x8_1) = true := decide_eq_true c15
              clear c15
              by_cases c16 : x8_1 < (l2.length : Int)
              · rw [if_pos c16] at H
                have c16b0 : decide (x8_1 < (l2.length : Int)) = true := decide_eq_true c16
                clear c16
                replace H := Option.bind_eq_some_iff.mp H
                obtain ⟨⟨t309, t310, t311, t312, t313, t314, t315, t316, t317, t318, t319, t320, t321, t322⟩, A170, H⟩ := H
                replace H : (if x308006_1 = 3 then (hourglasslaw21_CallBounds.j2 kj11 l2 x8_1 ((!(t309 == x308000_1) || (!(t310 == x308001_1) || (!(t311 == x308002_1)))) || (!(t312 == x308003_1) || (!(t313 == x308004_1) || (!(t314 == x308005_1) || (!(t315 == x308006_1) || (!(t316 == x308007_1) || (!(t317 == x308008_1) || (!(t318 == x308009_1) || (!(t319 == x308010_1) || (!(t320 == x308011_1) || (!(t321 == x308012_1)))))))))))) a1_0 a1_1 a1_2 a1_3 a1_4 a1_5 a1_6 a1_7 a1_8 a1_9 a1_10 a1_11 a1_12 l1_13 x308000_1 x308001_1 x308002_1 x308003_1 x308004_1 x308005_1 x308006_1 x308007_1 x308008_1 x308009_1 x308010_1 x308011_1 x308012_1 t309 t310 t311 t312 t313 t314 t315 t316 t317 t318 t319 t320 t321) else (hourglasslaw21_CallBounds.j2 kj11 l2 x8_1 false a1_0 a1_1 a1_2 a1_3 a1_4 a1_5 a1_6 a1_7 a1_8 a1_9 a1_10 a1_11 a1_12 l1_13 x308000_1 x308001_1 x308002_1 x308003_1 x308004_1 x308005_1 x308006_1 x308007_1 x308008_1 x308009_1 x308010_1 x308011_1 x308012_1 t309 t310 t311 t312 t313 t314 t315 t316 t317 t318 t319 t320 t321)) = some r := H
                have A17 := Aside0.mk A170
                clear A170
                have HC18 := Aside0.mk H
                clear H
                try go_wp2
                have n0_ := Aside0.mk (blk_drew BK305.out)
                have n1_ := Aside0.mk (blk_drew BK306.out)
                have n2_ := Aside0.mk (blk_drew BK307.out)
                have n3_ := Aside0.mk (below_drew1 HB.out)
                clear BK305
                clear BK306
                clear BK307
                clear HB
                have BK305 := n0_
                have BK306 := n1_
                have BK307 := n2_
                have HB := n3_
                clear n0_ n1_ n2_ n3_
                have p308 : 0 ≤ (x8_1 : Int) := of_decide_eq_true (by first | (with_reducible assumption) | assumption)
                have q308 : x8_1 < (l2.length : Int) := of_decide_eq_true (by first | (with_reducible assumption) | assumption)
                obtain ⟨ad308, e308, hx308_0, hx308_1, hx308_2, hx308_3, hx308_4, hx308_5, hx308_6, hx308_7, hx308_8, hx308_9⟩ := at_T79 HR2.out x8_1 p308 q308
                have hw308_9 := hx308_9
                have hw308_8 := hx308_8
                have hw308_7 := hx308_7
                have hw308_6 := hx308_6
                have hw308_5 := hx308_5
                have hw308_4 := hx308_4
                have hw308_3 := hx308_3
                have hw308_2 := hx308_2
                have hw308_1 := hx308_1
                have hw308_0 := hx308_0
                cases e308
                replace hx308_0 := (HB.out.cell (World.block_lt_of_cell? w _ hx308_0)).trans hx308_0
                replace hx308_1 := (HB.out.cell (World.block_lt_of_cell? w _ hx308_1)).trans hx308_1
                replace hx308_2 := (HB.out.cell (World.block_lt_of_cell? w _ hx308_2)).trans hx308_2
                replace hx308_3 := (HB.out.cell (World.block_lt_of_cell? w _ hx308_3)).trans hx308_3
                replace hx308_4 := (HB.out.cell (World.block_lt_of_cell? w _ hx308_4)).trans hx308_4
                replace hx308_5 := (HB.out.cell (World.block_lt_of_cell? w _ hx308_5)).trans hx308_5
                replace hx308_6 := (HB.out.cell (World.block_lt_of_cell? w _ hx308_6)).trans hx308_6
                replace hx308_7 := (HB.out.cell (World.block_lt_of_cell? w _ hx308_7)).trans hx308_7
                replace hx308_8 := (HB.out.cell (World.block_lt_of_cell? w _ hx308_8)).trans hx308_8
                replace hx308_9 := (HB.out.cell (World.block_lt_of_cell? w _ hx308_9)).trans hx308_9
                replace p308 := eq_true p308
                replace q308 := eq_true q308
                refine start_ (n := 13) (S := fun w' => w'.cell? ⟨gb307, 0, none⟩ = some (.int .i64 x308000_1) ∧ w'.cell? ⟨gb307, 1, none⟩ = some (.int .i64 x308001_1) ∧ w'.cell? ⟨gb307, 2, none⟩ = some (.int .i64 x308002_1) ∧ w'.cell? ⟨gb307, 3, none⟩ = some (.int .i64 x308003_1) ∧ w'.cell? ⟨gb307, 4, none⟩ = some (.int .i64 x308004_1) ∧ w'.cell? ⟨gb307, 5, none⟩ = some (.int .i64 x308005_1) ∧ w'.cell? ⟨gb307, 6, none⟩ = some (.int .i64 x308006_1) ∧ w'.cell? ⟨gb307, 7, none⟩ = some (.int .i64 x308007_1) ∧ w'.cell? ⟨gb307, 8, none⟩ = some (.int .i64 x308008_1) ∧ w'.cell? ⟨gb307, 9, none⟩ = some (.bool x308009_1) ∧ w'.cell? ⟨gb307, 10, none⟩ = some (.int .i64 x308010_1) ∧ w'.cell? ⟨gb307, 11, none⟩ = some (.int .i64 x308011_1) ∧ w'.cell? ⟨gb307, 12, none⟩ = some (.int .i64 x308012_1) ∧ w'.cell? ⟨gb306, 0, none⟩ = some (.int .i64 a1_0) ∧ w'.cell? ⟨gb306, 1, none⟩ = some (.int .i64 a1_1) ∧ w'.cell? ⟨gb306, 2, none⟩ = some (.int .i64 a1_2) ∧ w'.cell? ⟨gb306, 3, none⟩ = some (.int .i64 a1_3) ∧ w'.cell? ⟨gb306, 4, none⟩ = some (.int .i64 a1_4) ∧ w'.cell? ⟨gb306, 5, none⟩ = some (.int .i64 a1_5) ∧ w'.cell? ⟨gb306, 6, none⟩ = some (.int .i64 a1_6) ∧ w'.cell? ⟨gb306, 7, none⟩ = some (.int .i64 a1_7) ∧ w'.cell? ⟨gb306, 8, none⟩ = some (.int .i64 a1_8) ∧ w'.cell? ⟨gb306, 9, none⟩ = some (.int .i64 a1_9) ∧ w'.cell? ⟨gb306, 10, none⟩ = some (.int .i64 a1_10) ∧ w'.cell? ⟨gb306, 11, none⟩ = some (.int .i64 a1_11) ∧ w'.cell? ⟨gb306, 12, none⟩ = some (.int .i64 a1_12) ∧ w'.cell? ⟨gb306, 13, none⟩ = some (.slice A1_13 l1_13.length c1_13) ∧ w'.cell? (ad308.add ((x8_1).toNat * 10)) = some (.int .i64 ((rd_T79 l2 x8_1).f0)) ∧ w'.cell? ⟨(ad308.add ((x8_1).toNat * 10)).block, (ad308.add ((x8_1).toNat * 10)).off + 1, none⟩ = some (.int .i64 ((rd_T79 l2 x8_1).f1)) ∧ w'.cell? ⟨(ad308.add ((x8_1).toNat * 10)).block, (ad308.add ((x8_1).toNat * 10)).off + 2, none⟩ = some (.int .i64 ((rd_T79 l2 x8_1).f2.f0)) ∧ w'.cell? ⟨(ad308.add ((x8_1).toNat * 10)).block, (ad308.add ((x8_1).toNat * 10)).off + 3, none⟩ = some (.int .i64 ((rd_T79 l2 x8_1).f2.f1)) ∧ w'.cell? ⟨(ad308.add ((x8_1).toNat * 10)).block, (ad308.add ((x8_1).toNat * 10)).off + 4, none⟩ = some (.bool ((rd_T79 l2 x8_1).f2.f2)) ∧ w'.cell? ⟨(ad308.add ((x8_1).toNat * 10)).block, (ad308.add ((x8_1).toNat * 10)).off + 5, none⟩ = some (.int .i64 ((rd_T79 l2 x8_1).f2.f3)) ∧ w'.cell? ⟨(ad308.add ((x8_1).toNat * 10)).block, (ad308.add ((x8_1).toNat * 10)).off + 6, none⟩ = some (.int .i64 ((rd_T79 l2 x8_1).f2.f4)) ∧ w'.cell? ⟨(ad308.add ((x8_1).toNat * 10)).block, (ad308.add ((x8_1).toNat * 10)).off + 7, none⟩ = some (.int .i64 ((rd_T79 l2 x8_1).f2.f5)) ∧ w'.cell? ⟨(ad308.add ((x8_1).toNat * 10)).block, (ad308.add ((x8_1).toNat * 10)).off + 8, none⟩ = some (.int .i64 ((rd_T79 l2 x8_1).f2.f6)) ∧ w'.cell? ⟨(ad308.add ((x8_1).toNat * 10)).block, (ad308.add ((x8_1).toNat * 10)).off + 9, none⟩ = some (.int .i64 ((rd_T79 l2 x8_1).f2.f7))) (ds := []) #[false, false, false, false, false, false, false, false, false, false, false, false, false] (by kernel_rfl) rfl rfl (br13 BK307.out (br14 BK306.out ⟨((HB.out.cell (World.block_lt_of_cell? w _ hw308_0)).trans hw308_0), ((HB.out.cell (World.block_lt_of_cell? w _ hw308_1)).trans hw308_1), ((HB.out.cell (World.block_lt_of_cell? w _ hw308_2)).trans hw308_2), ((HB.out.cell (World.block_lt_of_cell? w _ hw308_3)).trans hw308_3), ((HB.out.cell (World.block_lt_of_cell? w _ hw308_4)).trans hw308_4), ((HB.out.cell (World.block_lt_of_cell? w _ hw308_5)).trans hw308_5), ((HB.out.cell (World.block_lt_of_cell? w _ hw308_6)).trans hw308_6), ((HB.out.cell (World.block_lt_of_cell? w _ hw308_7)).trans hw308_7), ((HB.out.cell (World.block_lt_of_cell? w _ hw308_8)).trans hw308_8), ((HB.out.cell (World.block_lt_of_cell? w _ hw308_9)).trans hw308_9)⟩)) (fun hHeld => ?_); refine with_tabW hourglasslaw21_CallBounds.tab5 hourglasslaw21_CallBounds.bits5 (fun HT_ HW_ => ?_)
                generalize wc.drew = w19 at BK305 BK306 BK307 HB hx308_0 hx308_1 hx308_2 hx308_3 hx308_4 hx308_5 hx308_6 hx308_7 hx308_8 hx308_9 hHeld ⊢
                refine pure_ (i := 2) (N := some 26) (v := ?_) (a' := ?_) #[false, false, true, false, false, false, false, false, false, false, false, false, false] rfl rfl (any_of HT_.out (by kernel_rfl)) (fun _ _ _ h => h) (Or.inl ⟨by rfl, ?_⟩) ?_ ?_
                rotate_left
                · intro w'
                  go_simp
                  with_reducible rfl
                rotate_left
                · simp only [Act.put, List.setIfInBounds_toArray, List.set_cons_zero, List.set_cons_succ, i64_w, i32_w]
                  rfl
                refine pure_ (i := 3) (N := some 27) (v := ?_) (a' := ?_) #[false, false, true, true, false, false, false, false, false, false, false, false, false] rfl rfl (any_of HT_.out (by kernel_rfl)) (fun _ _ _ h => h) (Or.inl ⟨by rfl, ?_⟩) ?_ ?_
                rotate_left
                · intro w'
                  go_simp
                  with_reducible rfl
                rotate_left
                · simp only [Act.put, List.setIfInBounds_toArray, List.set_cons_zero, List.set_cons_succ, i64_w, i32_w]
                  rfl
                refine pure_ (i := 4) (N := some 28) (v := ?_) (a' := ?_) #[false, false, true, true, true, false, false, false, false, false, false, false, false] rfl rfl (any_of HT_.out (by kernel_rfl)) (fun _ _ _ h => h) (Or.inl ⟨by rfl, ?_⟩) ?_ ?_
                rotate_left
                · intro w'
                  go_simp
                  with_reducible rfl
                rotate_left
                · simp only [Act.put, List.setIfInBounds_toArray, List.set_cons_zero, List.set_cons_succ, i64_w, i32_w]
                  rfl
                refine take_ (i := 0) (N := some 24) (v := ?_) (a' := ?_) #[true, false, true, true, true, false, false, false, false, false, false, false, false] rfl rfl (take_ofW HT_.out HW_.out (by kernel_rfl)) (fun _ _ _ h => h) (Or.inl ⟨by rfl, ?_⟩) hHeld ?_ ?_
                rotate_left
                · rintro w' ⟨s0, s1, s2, s3, s4, s5, s6, s7, s8, s9, s10, s11, s12, s13, s14, s15, s16, s17, s18, s19, s20, s21, s22, s23, s24, s25, s26, s27, s28, s29, s30, s31, s32, s33, s34, s35, s36⟩
                  go_simp
                  with_reducible rfl
                rotate_left
                · simp only [Act.put, List.setIfInBounds_toArray, List.set_cons_zero, List.set_cons_succ, i64_w, i32_w]
                  rfl
                refine take_ (i := 1) (N := some 25) (v := ?_) (a' := ?_) #[true, true, true, true, true, false, false, false, false, false, false, false, false] rfl rfl (take_ofW HT_.out HW_.out (by kernel_rfl)) (fun _ _ _ h => h) (Or.inl ⟨by rfl, ?_⟩) hHeld ?_ ?_
                rotate_left
                · rintro w' ⟨s0, s1, s2, s3, s4, s5, s6, s7, s8, s9, s10, s11, s12, s13, s14, s15, s16, s17, s18, s19, s20, s21, s22, s23, s24, s25, s26, s27, s28, s29, s30, s31, s32, s33, s34, s35, s36⟩
                  go_simp
                  with_reducible rfl
                rotate_left
                · simp only [Act.put, List.setIfInBounds_toArray, List.set_cons_zero, List.set_cons_succ, i64_w, i32_w]
                  rfl
                refine take_ (i := 5) (N := some 29) (v := ?_) (a' := ?_) #[true, true, true, true, true, true, false, false, false, false, false, false, false] rfl rfl (take_ofW HT_.out HW_.out (by kernel_rfl)) (fun _ _ _ h => h) (Or.inl ⟨by rfl, ?_⟩) hHeld ?_ ?_
                rotate_left
                · rintro w' ⟨s0, s1, s2, s3, s4, s5, s6, s7, s8, s9, s10, s11, s12, s13, s14, s15, s16, s17, s18, s19, s20, s21, s22, s23, s24, s25, s26, s27, s28, s29, s30, s31, s32, s33, s34, s35, s36⟩
                  go_simp
                  with_reducible rfl
                rotate_left
                · simp only [Act.put, List.setIfInBounds_toArray, List.set_cons_zero, List.set_cons_succ, i64_w, i32_w]
                  rfl
                refine join_ (σ := Nat) 2 #[true, true, true, true, true, true, true, true, true, true, true, false, false] (fun s_ => [(30, .tuple #[.agg #[.int .i64 t309, .int .i64 t310, .int .i64 t311, .int .i64 t312, .int .i64 t313, .int .i64 t314, .int .i64 t315, .int .i64 t316, .int .i64 t317, .bool t318, .int .i64 t319, .int .i64 t320, .int .i64 t321], .int .i64 t322]), (9, .pointer (some ⟨s_, 0, none⟩)), (23, .tuple #[.agg #[.int .i64 t309, .int .i64 t310, .int .i64 t311, .int .i64 t312, .int .i64 t313, .int .i64 t314, .int .i64 t315, .int .i64 t316, .int .i64 t317, .bool t318, .int .i64 t319, .int .i64 t320, .int .i64 t321], .int .i64 t322]), (31, .agg #[.int .i64 t309, .int .i64 t310, .int .i64 t311, .int .i64 t312, .int .i64 t313, .int .i64 t314, .int .i64 t315, .int .i64 t316, .int .i64 t317, .bool t318, .int .i64 t319, .int .i64 t320, .int .i64 t321]), (32, .int .i64 t322)]) (fun s_ w' => (w'.cell? ⟨gb307, 0, none⟩ = some (.int .i64 x308000_1) ∧ w'.cell? ⟨gb307, 1, none⟩ = some (.int .i64 x308001_1) ∧ w'.cell? ⟨gb307, 2, none⟩ = some (.int .i64 x308002_1) ∧ w'.cell? ⟨gb307, 3, none⟩ = some (.int .i64 x308003_1) ∧ w'.cell? ⟨gb307, 4, none⟩ = some (.int .i64 x308004_1) ∧ w'.cell? ⟨gb307, 5, none⟩ = some (.int .i64 x308005_1) ∧ w'.cell? ⟨gb307, 6, none⟩ = some (.int .i64 x308006_1) ∧ w'.cell? ⟨gb307, 7, none⟩ = some (.int .i64 x308007_1) ∧ w'.cell? ⟨gb307, 8, none⟩ = some (.int .i64 x308008_1) ∧ w'.cell? ⟨gb307, 9, none⟩ = some (.bool x308009_1) ∧ w'.cell? ⟨gb307, 10, none⟩ = some (.int .i64 x308010_1) ∧ w'.cell? ⟨gb307, 11, none⟩ = some (.int .i64 x308011_1) ∧ w'.cell? ⟨gb307, 12, none⟩ = some (.int .i64 x308012_1) ∧ w'.cell? ⟨gb306, 0, none⟩ = some (.int .i64 a1_0) ∧ w'.cell? ⟨gb306, 1, none⟩ = some (.int .i64 a1_1) ∧ w'.cell? ⟨gb306, 2, none⟩ = some (.int .i64 a1_2) ∧ w'.cell? ⟨gb306, 3, none⟩ = some (.int .i64 a1_3) ∧ w'.cell? ⟨gb306, 4, none⟩ = some (.int .i64 a1_4) ∧ w'.cell? ⟨gb306, 5, none⟩ = some (.int .i64 a1_5) ∧ w'.cell? ⟨gb306, 6, none⟩ = some (.int .i64 a1_6) ∧ w'.cell? ⟨gb306, 7, none⟩ = some (.int .i64 a1_7) ∧ w'.cell? ⟨gb306, 8, none⟩ = some (.int .i64 a1_8) ∧ w'.cell? ⟨gb306, 9, none⟩ = some (.int .i64 a1_9) ∧ w'.cell? ⟨gb306, 10, none⟩ = some (.int .i64 a1_10) ∧ w'.cell? ⟨gb306, 11, none⟩ = some (.int .i64 a1_11) ∧ w'.cell? ⟨gb306, 12, none⟩ = some (.int .i64 a1_12) ∧ w'.cell? ⟨gb306, 13, none⟩ = some (.slice A1_13 l1_13.length c1_13) ∧ w'.cell? (ad308.add ((x8_1).toNat * 10)) = some (.int .i64 ((rd_T79 l2 x8_1).f0)) ∧ w'.cell? ⟨(ad308.add ((x8_1).toNat * 10)).block, (ad308.add ((x8_1).toNat * 10)).off + 1, none⟩ = some (.int .i64 ((rd_T79 l2 x8_1).f1)) ∧ w'.cell? ⟨(ad308.add ((x8_1).toNat * 10)).block, (ad308.add ((x8_1).toNat * 10)).off + 2, none⟩ = some (.int .i64 ((rd_T79 l2 x8_1).f2.f0)) ∧ w'.cell? ⟨(ad308.add ((x8_1).toNat * 10)).block, (ad308.add ((x8_1).toNat * 10)).off + 3, none⟩ = some (.int .i64 ((rd_T79 l2 x8_1).f2.f1)) ∧ w'.cell? ⟨(ad308.add ((x8_1).toNat * 10)).block, (ad308.add ((x8_1).toNat * 10)).off + 4, none⟩ = some (.bool ((rd_T79 l2 x8_1).f2.f2)) ∧ w'.cell? ⟨(ad308.add ((x8_1).toNat * 10)).block, (ad308.add ((x8_1).toNat * 10)).off + 5, none⟩ = some (.int .i64 ((rd_T79 l2 x8_1).f2.f3)) ∧ w'.cell? ⟨(ad308.add ((x8_1).toNat * 10)).block, (ad308.add ((x8_1).toNat * 10)).off + 6, none⟩ = some (.int .i64 ((rd_T79 l2 x8_1).f2.f4)) ∧ w'.cell? ⟨(ad308.add ((x8_1).toNat * 10)).block, (ad308.add ((x8_1).toNat * 10)).off + 7, none⟩ = some (.int .i64 ((rd_T79 l2 x8_1).f2.f5)) ∧ w'.cell? ⟨(ad308.add ((x8_1).toNat * 10)).block, (ad308.add ((x8_1).toNat * 10)).off + 8, none⟩ = some (.int .i64 ((rd_T79 l2 x8_1).f2.f6)) ∧ w'.cell? ⟨(ad308.add ((x8_1).toNat * 10)).block, (ad308.add ((x8_1).toNat * 10)).off + 9, none⟩ = some (.int .i64 ((rd_T79 l2 x8_1).f2.f7))) ∧ (w'.heap[gb305]? = some (.cells #[.int .i64 a0_0, .int .i64 a0_1, .int .i64 a0_2] 23 (0, 0))) ∧ (w'.heap[gb306]? = some (.cells #[.int .i64 a1_0, .int .i64 a1_1, .int .i64 a1_2, .int .i64 a1_3, .int .i64 a1_4, .int .i64 a1_5, .int .i64 a1_6, .int .i64 a1_7, .int .i64 a1_8, .int .i64 a1_9, .int .i64 a1_10, .int .i64 a1_11, .int .i64 a1_12, .slice A1_13 l1_13.length c1_13] 72 (0, 0))) ∧ (w'.heap[gb307]? = some (.cells #[.int .i64 x308000_1, .int .i64 x308001_1, .int .i64 x308002_1, .int .i64 x308003_1, .int .i64 x308004_1, .int .i64 x308005_1, .int .i64 x308006_1, .int .i64 x308007_1, .int .i64 x308008_1, .bool x308009_1, .int .i64 x308010_1, .int .i64 x308011_1, .int .i64 x308012_1] 58 (0, 0))) ∧ (w'.heap[s_]? = some (.cells #[.int .i64 0, .int .i64 0, .int .i64 0, .int .i64 0, .int .i64 0, .int .i64 0, .int .i64 0, .int .i64 0, .int .i64 0, .bool false, .int .i64 0, .int .i64 0, .int .i64 0] 58 (0, 0))) ∧ (w.heap.size ≤ s_) ∧ (w.heap.size ≤ s_) ∧ (gb305 ≠ s_) ∧ (s_ ≠ gb305) ∧ (gb306 ≠ s_) ∧ (s_ ≠ gb306) ∧ (gb307 ≠ s_) ∧ (s_ ≠ gb307) ∧ (Below w.heap.size w w')) ?_ ?_
                rotate_left
                · intro hCont
                  refine two_ (i := 6) (j := 10) (Ni := some 30) (Nj := some 9) #[true, true, true, true, true, true, true, false, false, false, false, false, false] #[true, true, true, true, true, true, false, false, false, false, true, false, false] rfl rfl rfl rfl (two_of HT_.out (by kernel_rfl)) (by decide) (by decide) (fun K hK => ?_) (fun K hK => ?_)
                  · skip
                    refine goes_ Try.func38 (by kernel_rfl) rfl #[.agg #[.int .i64 x308000_1, .int .i64 x308001_1, .int .i64 x308002_1, .int .i64 x308003_1, .int .i64 x308004_1, .int .i64 x308005_1, .int .i64 x308006_1, .int .i64 x308007_1, .int .i64 x308008_1, .bool x308009_1, .int .i64 x308010_1, .int .i64 x308011_1, .int .i64 x308012_1], .agg #[.int .i64 a1_0, .int .i64 a1_1, .int .i64 a1_2, .int .i64 a1_3, .int .i64 a1_4, .int .i64 a1_5, .int .i64 a1_6, .int .i64 a1_7, .int .i64 a1_8, .int .i64 a1_9, .int .i64 a1_10, .int .i64 a1_11, .int .i64 a1_12, .slice A1_13 l1_13.length c1_13], .agg #[.int .i64 ((rd_T79 l2 x8_1).f0), .int .i64 ((rd_T79 l2 x8_1).f1), .int .i64 ((rd_T79 l2 x8_1).f2.f0), .int .i64 ((rd_T79 l2 x8_1).f2.f1), .bool ((rd_T79 l2 x8_1).f2.f2), .int .i64 ((rd_T79 l2 x8_1).f2.f3), .int .i64 ((rd_T79 l2 x8_1).f2.f4), .int .i64 ((rd_T79 l2 x8_1).f2.f5), .int .i64 ((rd_T79 l2 x8_1).f2.f6), .int .i64 ((rd_T79 l2 x8_1).f2.f7)]] (by rfl) rfl rfl (by (try simp only [List.map_toArray, List.map_cons, List.map_nil]); first | done | rfl | (simp only [List.length_drop, List.length_take]; rfl)) ?_
                    with_reducible refine (hourglasslaw21_step.calls kj11 x308000_1 x308001_1 x308002_1 x308003_1 x308004_1 x308005_1 x308006_1 x308007_1 x308008_1 x308009_1 x308010_1 x308011_1 x308012_1 a1_0 a1_1 a1_2 a1_3 a1_4 a1_5 a1_6 a1_7 a1_8 a1_9 a1_10 a1_11 a1_12 _ _ l1_13 ((rd_T79 l2 x8_1).f0) ((rd_T79 l2 x8_1).f1) ((rd_T79 l2 x8_1).f2.f0) ((rd_T79 l2 x8_1).f2.f1) ((rd_T79 l2 x8_1).f2.f2) ((rd_T79 l2 x8_1).f2.f3) ((rd_T79 l2 x8_1).f2.f4) ((rd_T79 l2 x8_1).f2.f5) ((rd_T79 l2 x8_1).f2.f6) ((rd_T79 l2 x8_1).f2.f7) t309 t310 t311 t312 t313 t314 t315 t316 t317 t318 t319 t320 t321 t322 _ ?side1 ?side2 A17.out).mono ?_
                    (case side1 => repeat (first | exact (Kd.C_below HR1_13.out HB.out) | (with_reducible refine Kd.C_alloc ?_ _) | (with_reducible refine Kd.C_drewN ?_ _) | (with_reducible refine Kd.C_drew ?_)))
                    (case side2 => exact HC1_13.out)
                    rintro e w20 ⟨rfl, hb⟩
                    refine ⟨_, rfl, ?_⟩
                    have n0_ := Aside0.mk (blk_below (g := gb305) (by (with_reducible repeat (first | refine bN ?_ _ | refine bD ?_ | refine bA ?_ _)); exact BK305.out) hb)
                    have n1_ := Aside0.mk (blk_below (g := gb306) (by (with_reducible repeat (first | refine bN ?_ _ | refine bD ?_ | refine bA ?_ _)); exact BK306.out) hb)
                    have n2_ := Aside0.mk (blk_below (g := gb307) (by (with_reducible repeat (first | refine bN ?_ _ | refine bD ?_ | refine bA ?_ _)); exact BK307.out) hb)
                    have n3_ := Aside0.mk (below_step (by repeat (first | (with_reducible first | exact HB.out | apply pA | apply pN | apply pD | refine pS ?_ GE305.out | refine pS ?_ GE306.out | refine pS ?_ GE307.out) | exact HB.out)) hb)
                    clear BK305
                    clear BK306
                    clear BK307
                    clear HB
                    have BK305 := n0_
                    have BK306 := n1_
                    have BK307 := n2_
                    have HB := n3_
                    clear n0_ n1_ n2_ n3_
                    (try clear hb)
                    (try clear hb2)
                    (try clear hk)
                    (try clear hi)
                    refine hK.out _ _ (br13 BK307.out (br14 BK306.out ⟨((HB.out.cell (World.block_lt_of_cell? w _ hw308_0)).trans hw308_0), ((HB.out.cell (World.block_lt_of_cell? w _ hw308_1)).trans hw308_1), ((HB.out.cell (World.block_lt_of_cell? w _ hw308_2)).trans hw308_2), ((HB.out.cell (World.block_lt_of_cell? w _ hw308_3)).trans hw308_3), ((HB.out.cell (World.block_lt_of_cell? w _ hw308_4)).trans hw308_4), ((HB.out.cell (World.block_lt_of_cell? w _ hw308_5)).trans hw308_5), ((HB.out.cell (World.block_lt_of_cell? w _ hw308_6)).trans hw308_6), ((HB.out.cell (World.block_lt_of_cell? w _ hw308_7)).trans hw308_7), ((HB.out.cell (World.block_lt_of_cell? w _ hw308_8)).trans hw308_8), ((HB.out.cell (World.block_lt_of_cell? w _ hw308_9)).trans hw308_9)⟩)) (fun hHeld => ?_)
                    clear hK K
                    refine norm_ (a' := ?_) ?_ ?_
                    rotate_left
                    · show Act.put _ (some 30) _ = _
                      simp only [Act.put, List.setIfInBounds_toArray, List.set_cons_zero, List.set_cons_succ, i64_w, i32_w]
                      rfl
                    refine pure_ (i := 7) (N := some 23) (v := ?_) (a' := ?_) #[true, true, true, true, true, true, true, true, false, false, false, false, false] rfl rfl (any_of HT_.out (by kernel_rfl)) (fun _ _ _ h => h) (Or.inl ⟨by rfl, ?_⟩) ?_ ?_
                    rotate_left
                    · intro w'
                      go_simp
                      with_reducible rfl
                    rotate_left
                    · simp only [Act.put, List.setIfInBounds_toArray, List.set_cons_zero, List.set_cons_succ, i64_w, i32_w]
                      rfl
                    refine pure_ (i := 8) (N := some 31) (v := ?_) (a' := ?_) #[true, true, true, true, true, true, true, true, true, false, false, false, false] rfl rfl (any_of HT_.out (by kernel_rfl)) (fun _ _ _ h => h) (Or.inl ⟨by rfl, ?_⟩) ?_ ?_
                    rotate_left
                    · intro w'
                      go_simp
                      with_reducible rfl
                    rotate_left
                    · simp only [Act.put, List.setIfInBounds_toArray, List.set_cons_zero, List.set_cons_succ, i64_w, i32_w]
                      rfl
                    refine pure_ (i := 9) (N := some 32) (v := ?_) (a' := ?_) #[true, true, true, true, true, true, true, true, true, true, false, false, false] rfl rfl (any_of HT_.out (by kernel_rfl)) (fun _ _ _ h => h) (Or.inl ⟨by rfl, ?_⟩) ?_ ?_
                    rotate_left
                    · intro w'
                      go_simp
                      with_reducible rfl
                    rotate_left
                    · simp only [Act.put, List.setIfInBounds_toArray, List.set_cons_zero, List.set_cons_succ, i64_w, i32_w]
                      rfl
                    refine one_ (i := 10) (N := some 9) #[true, true, true, true, true, true, true, true, true, true, true, false, false] rfl rfl (one_of HT_.out (by kernel_rfl)) (by decide) (fun K hK => ?_)
                    refine box_step ?hg (N := 9) ?hd (cs := #[.int .i64 0, .int .i64 0, .int .i64 0, .int .i64 0, .int .i64 0, .int .i64 0, .int .i64 0, .int .i64 0, .int .i64 0, .bool false, .int .i64 0, .int .i64 0, .int .i64 0]) (t := 58) ?hr ?_; (case hd => rfl); (case hg => rfl); (case hr => first | (go_simp; done) | (go_simp; rfl))
                    intro gb323 hg w21 hbox hb
                    have n0_ := Aside0.mk (blk_below (g := gb305) (by (with_reducible repeat (first | refine bN ?_ _ | refine bD ?_ | refine bA ?_ _)); exact BK305.out) hb)
                    have n1_ := Aside0.mk (blk_below (g := gb306) (by (with_reducible repeat (first | refine bN ?_ _ | refine bD ?_ | refine bA ?_ _)); exact BK306.out) hb)
                    have n2_ := Aside0.mk (blk_below (g := gb307) (by (with_reducible repeat (first | refine bN ?_ _ | refine bD ?_ | refine bA ?_ _)); exact BK307.out) hb)
                    have n3_ := Aside0.mk (below_step (by repeat (first | (with_reducible first | exact HB.out | apply pA | apply pN | apply pD | refine pS ?_ GE305.out | refine pS ?_ GE306.out | refine pS ?_ GE307.out) | exact HB.out)) hb)
                    have n4_ := Aside0.mk (hbox)
                    have n5_ := Aside0.mk ((by rw [hg]; exact (below_size (by repeat (first | (with_reducible first | exact HB.out | apply pA | apply pN | apply pD | refine pS ?_ GE305.out | refine pS ?_ GE306.out | refine pS ?_ GE307.out) | exact HB.out))) : w.heap.size ≤ gb323))
                    have n6_ := Aside0.mk ((by rw [hg]; exact (below_size (by repeat (first | (with_reducible first | exact HB.out | apply pA | apply pN | apply pD | refine pS ?_ GE305.out | refine pS ?_ GE306.out | refine pS ?_ GE307.out) | exact HB.out))) : w.heap.size ≤ gb323))
                    have n7_ := Aside0.mk ((by rw [hg]; exact Nat.ne_of_lt (blk_lt (g := gb305) (by (with_reducible repeat (first | refine bN ?_ _ | refine bD ?_ | refine bA ?_ _)); exact BK305.out)) : gb305 ≠ gb323))
                    have n8_ := Aside0.mk ((by rw [hg]; exact Nat.ne_of_gt (blk_lt (g := gb305) (by (with_reducible repeat (first | refine bN ?_ _ | refine bD ?_ | refine bA ?_ _)); exact BK305.out)) : gb323 ≠ gb305))
                    have n9_ := Aside0.mk ((by rw [hg]; exact Nat.ne_of_lt (blk_lt (g := gb306) (by (with_reducible repeat (first | refine bN ?_ _ | refine bD ?_ | refine bA ?_ _)); exact BK306.out)) : gb306 ≠ gb323))
                    have n10_ := Aside0.mk ((by rw [hg]; exact Nat.ne_of_gt (blk_lt (g := gb306) (by (with_reducible repeat (first | refine bN ?_ _ | refine bD ?_ | refine bA ?_ _)); exact BK306.out)) : gb323 ≠ gb306))
                    have n11_ := Aside0.mk ((by rw [hg]; exact Nat.ne_of_lt (blk_lt (g := gb307) (by (with_reducible repeat (first | refine bN ?_ _ | refine bD ?_ | refine bA ?_ _)); exact BK307.out)) : gb307 ≠ gb323))
                    have n12_ := Aside0.mk ((by rw [hg]; exact Nat.ne_of_gt (blk_lt (g := gb307) (by (with_reducible repeat (first | refine bN ?_ _ | refine bD ?_ | refine bA ?_ _)); exact BK307.out)) : gb323 ≠ gb307))
                    clear BK305
                    clear BK306
                    clear BK307
                    clear HB
                    have BK305 := n0_
                    have BK306 := n1_
                    have BK307 := n2_
                    have HB := n3_
                    have BK323 := n4_
                    have GW323 := n5_
                    have GE323 := n6_
                    have NB305_323 := n7_
                    have NB323_305 := n8_
                    have NB306_323 := n9_
                    have NB323_306 := n10_
                    have NB307_323 := n11_
                    have NB323_307 := n12_
                    clear n0_ n1_ n2_ n3_ n4_ n5_ n6_ n7_ n8_ n9_ n10_ n11_ n12_
                    clear hb hbox hg
                    refine hK.out _ _ (br13 BK307.out (br14 BK306.out ⟨((HB.out.cell (World.block_lt_of_cell? w _ hw308_0)).trans hw308_0), ((HB.out.cell (World.block_lt_of_cell? w _ hw308_1)).trans hw308_1), ((HB.out.cell (World.block_lt_of_cell? w _ hw308_2)).trans hw308_2), ((HB.out.cell (World.block_lt_of_cell? w _ hw308_3)).trans hw308_3), ((HB.out.cell (World.block_lt_of_cell? w _ hw308_4)).trans hw308_4), ((HB.out.cell (World.block_lt_of_cell? w _ hw308_5)).trans hw308_5), ((HB.out.cell (World.block_lt_of_cell? w _ hw308_6)).trans hw308_6), ((HB.out.cell (World.block_lt_of_cell? w _ hw308_7)).trans hw308_7), ((HB.out.cell (World.block_lt_of_cell? w _ hw308_8)).trans hw308_8), ((HB.out.cell (World.block_lt_of_cell? w _ hw308_9)).trans hw308_9)⟩)) (fun hHeld => ?_)
                    clear hK K
                    refine norm_ (a' := ?_) ?_ ?_
                    rotate_left
                    · show Act.put _ (some 9) _ = _
                      simp only [Act.put, List.setIfInBounds_toArray, List.set_cons_zero, List.set_cons_succ, i64_w, i32_w]
                      rfl
                    exact norm_ (by simp only [putAll, Act.put, List.setIfInBounds_toArray, List.set_cons_zero, List.set_cons_succ]) (hCont (gb323) _ ⟨hHeld, (by (with_reducible repeat (first | refine bN ?_ _ | refine bD ?_ | refine bA ?_ _)); exact BK305.out), (by (with_reducible repeat (first | refine bN ?_ _ | refine bD ?_ | refine bA ?_ _)); exact BK306.out), (by (with_reducible repeat (first | refine bN ?_ _ | refine bD ?_ | refine bA ?_ _)); exact BK307.out), (by (with_reducible repeat (first | refine bN ?_ _ | refine bD ?_ | refine bA ?_ _)); exact BK323.out), GW323.out, GE323.out, NB305_323.out, NB323_305.out, NB306_323.out, NB323_306.out, NB307_323.out, NB323_307.out, (by repeat (first | (with_reducible first | exact HB.out | apply pA | apply pN | apply pD | refine pS ?_ GE305.out | refine pS ?_ GE306.out | refine pS ?_ GE307.out | refine pS ?_ GE323.out) | exact HB.out))⟩)
                  · skip
                    refine box_step ?hg (N := 9) ?hd (cs := #[.int .i64 0, .int .i64 0, .int .i64 0, .int .i64 0, .int .i64 0, .int .i64 0, .int .i64 0, .int .i64 0, .int .i64 0, .bool false, .int .i64 0, .int .i64 0, .int .i64 0]) (t := 58) ?hr ?_; (case hd => rfl); (case hg => rfl); (case hr => first | (go_simp; done) | (go_simp; rfl))
                    intro gb323 hg w20 hbox hb
                    have n0_ := Aside0.mk (blk_below (g := gb305) (by (with_reducible repeat (first | refine bN ?_ _ | refine bD ?_ | refine bA ?_ _)); exact BK305.out) hb)
                    have n1_ := Aside0.mk (blk_below (g := gb306) (by (with_reducible repeat (first | refine bN ?_ _ | refine bD ?_ | refine bA ?_ _)); exact BK306.out) hb)
                    have n2_ := Aside0.mk (blk_below (g := gb307) (by (with_reducible repeat (first | refine bN ?_ _ | refine bD ?_ | refine bA ?_ _)); exact BK307.out) hb)
                    have n3_ := Aside0.mk (below_step (by repeat (first | (with_reducible first | exact HB.out | apply pA | apply pN | apply pD | refine pS ?_ GE305.out | refine pS ?_ GE306.out | refine pS ?_ GE307.out) | exact HB.out)) hb)
                    have n4_ := Aside0.mk (hbox)
                    have n5_ := Aside0.mk ((by rw [hg]; exact (below_size (by repeat (first | (with_reducible first | exact HB.out | apply pA | apply pN | apply pD | refine pS ?_ GE305.out | refine pS ?_ GE306.out | refine pS ?_ GE307.out) | exact HB.out))) : w.heap.size ≤ gb323))
                    have n6_ := Aside0.mk ((by rw [hg]; exact (below_size (by repeat (first | (with_reducible first | exact HB.out | apply pA | apply pN | apply pD | refine pS ?_ GE305.out | refine pS ?_ GE306.out | refine pS ?_ GE307.out) | exact HB.out))) : w.heap.size ≤ gb323))
                    have n7_ := Aside0.mk ((by rw [hg]; exact Nat.ne_of_lt (blk_lt (g := gb305) (by (with_reducible repeat (first | refine bN ?_ _ | refine bD ?_ | refine bA ?_ _)); exact BK305.out)) : gb305 ≠ gb323))
                    have n8_ := Aside0.mk ((by rw [hg]; exact Nat.ne_of_gt (blk_lt (g := gb305) (by (with_reducible repeat (first | refine bN ?_ _ | refine bD ?_ | refine bA ?_ _)); exact BK305.out)) : gb323 ≠ gb305))
                    have n9_ := Aside0.mk ((by rw [hg]; exact Nat.ne_of_lt (blk_lt (g := gb306) (by (with_reducible repeat (first | refine bN ?_ _ | refine bD ?_ | refine bA ?_ _)); exact BK306.out)) : gb306 ≠ gb323))
                    have n10_ := Aside0.mk ((by rw [hg]; exact Nat.ne_of_gt (blk_lt (g := gb306) (by (with_reducible repeat (first | refine bN ?_ _ | refine bD ?_ | refine bA ?_ _)); exact BK306.out)) : gb323 ≠ gb306))
                    have n11_ := Aside0.mk ((by rw [hg]; exact Nat.ne_of_lt (blk_lt (g := gb307) (by (with_reducible repeat (first | refine bN ?_ _ | refine bD ?_ | refine bA ?_ _)); exact BK307.out)) : gb307 ≠ gb323))
                    have n12_ := Aside0.mk ((by rw [hg]; exact Nat.ne_of_gt (blk_lt (g := gb307) (by (with_reducible repeat (first | refine bN ?_ _ | refine bD ?_ | refine bA ?_ _)); exact BK307.out)) : gb323 ≠ gb307))
                    clear BK305
                    clear BK306
                    clear BK307
                    clear HB
                    have BK305 := n0_
                    have BK306 := n1_
                    have BK307 := n2_
                    have HB := n3_
                    have BK323 := n4_
                    have GW323 := n5_
                    have GE323 := n6_
                    have NB305_323 := n7_
                    have NB323_305 := n8_
                    have NB306_323 := n9_
                    have NB323_306 := n10_
                    have NB307_323 := n11_
                    have NB323_307 := n12_
                    clear n0_ n1_ n2_ n3_ n4_ n5_ n6_ n7_ n8_ n9_ n10_ n11_ n12_
                    clear hb hbox hg
                    refine hK.out _ _ (br13 BK307.out (br14 BK306.out ⟨((HB.out.cell (World.block_lt_of_cell? w _ hw308_0)).trans hw308_0), ((HB.out.cell (World.block_lt_of_cell? w _ hw308_1)).trans hw308_1), ((HB.out.cell (World.block_lt_of_cell? w _ hw308_2)).trans hw308_2), ((HB.out.cell (World.block_lt_of_cell? w _ hw308_3)).trans hw308_3), ((HB.out.cell (World.block_lt_of_cell? w _ hw308_4)).trans hw308_4), ((HB.out.cell (World.block_lt_of_cell? w _ hw308_5)).trans hw308_5), ((HB.out.cell (World.block_lt_of_cell? w _ hw308_6)).trans hw308_6), ((HB.out.cell (World.block_lt_of_cell? w _ hw308_7)).trans hw308_7), ((HB.out.cell (World.block_lt_of_cell? w _ hw308_8)).trans hw308_8), ((HB.out.cell (World.block_lt_of_cell? w _ hw308_9)).trans hw308_9)⟩)) (fun hHeld => ?_)
                    clear hK K
                    refine norm_ (a' := ?_) ?_ ?_
                    rotate_left
                    · show Act.put _ (some 9) _ = _
                      simp only [Act.put, List.setIfInBounds_toArray, List.set_cons_zero, List.set_cons_succ, i64_w, i32_w]
                      rfl
                    refine one_ (i := 6) (N := some 30) #[true, true, true, true, true, true, true, false, false, false, true, false, false] rfl rfl (one_of HT_.out (by kernel_rfl)) (by decide) (fun K hK => ?_)
                    refine goes_ Try.func38 (by kernel_rfl) rfl #[.agg #[.int .i64 x308000_1, .int .i64 x308001_1, .int .i64 x308002_1, .int .i64 x308003_1, .int .i64 x308004_1, .int .i64 x308005_1, .int .i64 x308006_1, .int .i64 x308007_1, .int .i64 x308008_1, .bool x308009_1, .int .i64 x308010_1, .int .i64 x308011_1, .int .i64 x308012_1], .agg #[.int .i64 a1_0, .int .i64 a1_1, .int .i64 a1_2, .int .i64 a1_3, .int .i64 a1_4, .int .i64 a1_5, .int .i64 a1_6, .int .i64 a1_7, .int .i64 a1_8, .int .i64 a1_9, .int .i64 a1_10, .int .i64 a1_11, .int .i64 a1_12, .slice A1_13 l1_13.length c1_13], .agg #[.int .i64 ((rd_T79 l2 x8_1).f0), .int .i64 ((rd_T79 l2 x8_1).f1), .int .i64 ((rd_T79 l2 x8_1).f2.f0), .int .i64 ((rd_T79 l2 x8_1).f2.f1), .bool ((rd_T79 l2 x8_1).f2.f2), .int .i64 ((rd_T79 l2 x8_1).f2.f3), .int .i64 ((rd_T79 l2 x8_1).f2.f4), .int .i64 ((rd_T79 l2 x8_1).f2.f5), .int .i64 ((rd_T79 l2 x8_1).f2.f6), .int .i64 ((rd_T79 l2 x8_1).f2.f7)]] (by rfl) rfl rfl (by (try simp only [List.map_toArray, List.map_cons, List.map_nil]); first | done | rfl | (simp only [List.length_drop, List.length_take]; rfl)) ?_
                    with_reducible refine (hourglasslaw21_step.calls kj11 x308000_1 x308001_1 x308002_1 x308003_1 x308004_1 x308005_1 x308006_1 x308007_1 x308008_1 x308009_1 x308010_1 x308011_1 x308012_1 a1_0 a1_1 a1_2 a1_3 a1_4 a1_5 a1_6 a1_7 a1_8 a1_9 a1_10 a1_11 a1_12 _ _ l1_13 ((rd_T79 l2 x8_1).f0) ((rd_T79 l2 x8_1).f1) ((rd_T79 l2 x8_1).f2.f0) ((rd_T79 l2 x8_1).f2.f1) ((rd_T79 l2 x8_1).f2.f2) ((rd_T79 l2 x8_1).f2.f3) ((rd_T79 l2 x8_1).f2.f4) ((rd_T79 l2 x8_1).f2.f5) ((rd_T79 l2 x8_1).f2.f6) ((rd_T79 l2 x8_1).f2.f7) t309 t310 t311 t312 t313 t314 t315 t316 t317 t318 t319 t320 t321 t322 _ ?side1 ?side2 A17.out).mono ?_
                    (case side1 => repeat (first | exact (Kd.C_below HR1_13.out HB.out) | (with_reducible refine Kd.C_alloc ?_ _) | (with_reducible refine Kd.C_drewN ?_ _) | (with_reducible refine Kd.C_drew ?_)))
                    (case side2 => exact HC1_13.out)
                    rintro e w21 ⟨rfl, hb⟩
                    refine ⟨_, rfl, ?_⟩
                    have n0_ := Aside0.mk (blk_below (g := gb305) (by (with_reducible repeat (first | refine bN ?_ _ | refine bD ?_ | refine bA ?_ _)); exact BK305.out) hb)
                    have n1_ := Aside0.mk (blk_below (g := gb306) (by (with_reducible repeat (first | refine bN ?_ _ | refine bD ?_ | refine bA ?_ _)); exact BK306.out) hb)
                    have n2_ := Aside0.mk (blk_below (g := gb307) (by (with_reducible repeat (first | refine bN ?_ _ | refine bD ?_ | refine bA ?_ _)); exact BK307.out) hb)
                    have n3_ := Aside0.mk (blk_below (g := gb323) (by (with_reducible repeat (first | refine bN ?_ _ | refine bD ?_ | refine bA ?_ _)); exact BK323.out) hb)
                    have n4_ := Aside0.mk (below_step (by repeat (first | (with_reducible first | exact HB.out | apply pA | apply pN | apply pD | refine pS ?_ GE305.out | refine pS ?_ GE306.out | refine pS ?_ GE307.out | refine pS ?_ GE323.out) | exact HB.out)) hb)
                    clear BK305
                    clear BK306
                    clear BK307
                    clear BK323
                    clear HB
                    have BK305 := n0_
                    have BK306 := n1_
                    have BK307 := n2_
                    have BK323 := n3_
                    have HB := n4_
                    clear n0_ n1_ n2_ n3_ n4_
                    (try clear hb)
                    (try clear hb2)
                    (try clear hk)
                    (try clear hi)
                    refine hK.out _ _ (br13 BK307.out (br14 BK306.out ⟨((HB.out.cell (World.block_lt_of_cell? w _ hw308_0)).trans hw308_0), ((HB.out.cell (World.block_lt_of_cell? w _ hw308_1)).trans hw308_1), ((HB.out.cell (World.block_lt_of_cell? w _ hw308_2)).trans hw308_2), ((HB.out.cell (World.block_lt_of_cell? w _ hw308_3)).trans hw308_3), ((HB.out.cell (World.block_lt_of_cell? w _ hw308_4)).trans hw308_4), ((HB.out.cell (World.block_lt_of_cell? w _ hw308_5)).trans hw308_5), ((HB.out.cell (World.block_lt_of_cell? w _ hw308_6)).trans hw308_6), ((HB.out.cell (World.block_lt_of_cell? w _ hw308_7)).trans hw308_7), ((HB.out.cell (World.block_lt_of_cell? w _ hw308_8)).trans hw308_8), ((HB.out.cell (World.block_lt_of_cell? w _ hw308_9)).trans hw308_9)⟩)) (fun hHeld => ?_)
                    clear hK K
                    refine norm_ (a' := ?_) ?_ ?_
                    rotate_left
                    · show Act.put _ (some 30) _ = _
                      simp only [Act.put, List.setIfInBounds_toArray, List.set_cons_zero, List.set_cons_succ, i64_w, i32_w]
                      rfl
                    refine pure_ (i := 7) (N := some 23) (v := ?_) (a' := ?_) #[true, true, true, true, true, true, true, true, false, false, true, false, false] rfl rfl (any_of HT_.out (by kernel_rfl)) (fun _ _ _ h => h) (Or.inl ⟨by rfl, ?_⟩) ?_ ?_
                    rotate_left
                    · intro w'
                      go_simp
                      with_reducible rfl
                    rotate_left
                    · simp only [Act.put, List.setIfInBounds_toArray, List.set_cons_zero, List.set_cons_succ, i64_w, i32_w]
                      rfl
                    refine pure_ (i := 8) (N := some 31) (v := ?_) (a' := ?_) #[true, true, true, true, true, true, true, true, true, false, true, false, false] rfl rfl (any_of HT_.out (by kernel_rfl)) (fun _ _ _ h => h) (Or.inl ⟨by rfl, ?_⟩) ?_ ?_
                    rotate_left
                    · intro w'
                      go_simp
                      with_reducible rfl
                    rotate_left
                    · simp only [Act.put, List.setIfInBounds_toArray, List.set_cons_zero, List.set_cons_succ, i64_w, i32_w]
                      rfl
                    refine pure_ (i := 9) (N := some 32) (v := ?_) (a' := ?_) #[true, true, true, true, true, true, true, true, true, true, true, false, false] rfl rfl (any_of HT_.out (by kernel_rfl)) (fun _ _ _ h => h) (Or.inl ⟨by rfl, ?_⟩) ?_ ?_
                    rotate_left
                    · intro w'
                      go_simp
                      with_reducible rfl
                    rotate_left
                    · simp only [Act.put, List.setIfInBounds_toArray, List.set_cons_zero, List.set_cons_succ, i64_w, i32_w]
                      rfl
                    exact norm_ (by simp only [putAll, Act.put, List.setIfInBounds_toArray, List.set_cons_zero, List.set_cons_succ]) (hCont (gb323) _ ⟨hHeld, (by (with_reducible repeat (first | refine bN ?_ _ | refine bD ?_ | refine bA ?_ _)); exact BK305.out), (by (with_reducible repeat (first | refine bN ?_ _ | refine bD ?_ | refine bA ?_ _)); exact BK306.out), (by (with_reducible repeat (first | refine bN ?_ _ | refine bD ?_ | refine bA ?_ _)); exact BK307.out), (by (with_reducible repeat (first | refine bN ?_ _ | refine bD ?_ | refine bA ?_ _)); exact BK323.out), GW323.out, GE323.out, NB305_323.out, NB323_305.out, NB306_323.out, NB323_306.out, NB307_323.out, NB323_307.out, (by repeat (first | (with_reducible first | exact HB.out | apply pA | apply pN | apply pD | refine pS ?_ GE305.out | refine pS ?_ GE306.out | refine pS ?_ GE307.out | refine pS ?_ GE323.out) | exact HB.out))⟩)
                rintro gb323 w22 ⟨hS_, h0_, h1_, h2_, h3_, h4_, h5_, h6_, h7_, h8_, h9_, h10_, h11_, h12_⟩
                have n0_ : Aside0 (w22.heap[gb305]? = some (.cells #[.int .i64 a0_0, .int .i64 a0_1, .int .i64 a0_2] 23 (0, 0))) := ⟨h0_⟩
                have n1_ : Aside0 (w22.heap[gb306]? = some (.cells #[.int .i64 a1_0, .int .i64 a1_1, .int .i64 a1_2, .int .i64 a1_3, .int .i64 a1_4, .int .i64 a1_5, .int .i64 a1_6, .int .i64 a1_7, .int .i64 a1_8, .int .i64 a1_9, .int .i64 a1_10, .int .i64 a1_11, .int .i64 a1_12, .slice A1_13 l1_13.length c1_13] 72 (0, 0))) := ⟨h1_⟩
                have n2_ : Aside0 (w22.heap[gb307]? = some (.cells #[.int .i64 x308000_1, .int .i64 x308001_1, .int .i64 x308002_1, .int .i64 x308003_1, .int .i64 x308004_1, .int .i64 x308005_1, .int .i64 x308006_1, .int .i64 x308007_1, .int .i64 x308008_1, .bool x308009_1, .int .i64 x308010_1, .int .i64 x308011_1, .int .i64 x308012_1] 58 (0, 0))) := ⟨h2_⟩
                have n3_ : Aside0 (w22.heap[gb323]? = some (.cells #[.int .i64 0, .int .i64 0, .int .i64 0, .int .i64 0, .int .i64 0, .int .i64 0, .int .i64 0, .int .i64 0, .int .i64 0, .bool false, .int .i64 0, .int .i64 0, .int .i64 0] 58 (0, 0))) := ⟨h3_⟩
                have n4_ : Aside0 (w.heap.size ≤ gb323) := ⟨h4_⟩
                have n5_ : Aside0 (w.heap.size ≤ gb323) := ⟨h5_⟩
                have n6_ : Aside0 (gb305 ≠ gb323) := ⟨h6_⟩
                have n7_ : Aside0 (gb323 ≠ gb305) := ⟨h7_⟩
                have n8_ : Aside0 (gb306 ≠ gb323) := ⟨h8_⟩
                have n9_ : Aside0 (gb323 ≠ gb306) := ⟨h9_⟩
                have n10_ : Aside0 (gb307 ≠ gb323) := ⟨h10_⟩
                have n11_ : Aside0 (gb323 ≠ gb307) := ⟨h11_⟩
                have n12_ : Aside0 (Below w.heap.size w w22) := ⟨h12_⟩
                clear BK305
                clear BK306
                clear BK307
                clear HB
                clear h0_ h1_ h2_ h3_ h4_ h5_ h6_ h7_ h8_ h9_ h10_ h11_ h12_
                have BK305 := n0_
                have BK306 := n1_
                have BK307 := n2_
                have BK323 := n3_
                have GW323 := n4_
                have GE323 := n5_
                have NB305_323 := n6_
                have NB323_305 := n7_
                have NB306_323 := n8_
                have NB323_306 := n9_
                have NB307_323 := n10_
                have NB323_307 := n11_
                have HB := n12_
                clear n0_ n1_ n2_ n3_ n4_ n5_ n6_ n7_ n8_ n9_ n10_ n11_ n12_
                have hHeld : w22.cell? ⟨gb307, 0, none⟩ = some (.int .i64 x308000_1) ∧ w22.cell? ⟨gb307, 1, none⟩ = some (.int .i64 x308001_1) ∧ w22.cell? ⟨gb307, 2, none⟩ = some (.int .i64 x308002_1) ∧ w22.cell? ⟨gb307, 3, none⟩ = some (.int .i64 x308003_1) ∧ w22.cell? ⟨gb307, 4, none⟩ = some (.int .i64 x308004_1) ∧ w22.cell? ⟨gb307, 5, none⟩ = some (.int .i64 x308005_1) ∧ w22.cell? ⟨gb307, 6, none⟩ = some (.int .i64 x308006_1) ∧ w22.cell? ⟨gb307, 7, none⟩ = some (.int .i64 x308007_1) ∧ w22.cell? ⟨gb307, 8, none⟩ = some (.int .i64 x308008_1) ∧ w22.cell? ⟨gb307, 9, none⟩ = some (.bool x308009_1) ∧ w22.cell? ⟨gb307, 10, none⟩ = some (.int .i64 x308010_1) ∧ w22.cell? ⟨gb307, 11, none⟩ = some (.int .i64 x308011_1) ∧ w22.cell? ⟨gb307, 12, none⟩ = some (.int .i64 x308012_1) ∧ w22.cell? ⟨gb306, 0, none⟩ = some (.int .i64 a1_0) ∧ w22.cell? ⟨gb306, 1, none⟩ = some (.int .i64 a1_1) ∧ w22.cell? ⟨gb306, 2, none⟩ = some (.int .i64 a1_2) ∧ w22.cell? ⟨gb306, 3, none⟩ = some (.int .i64 a1_3) ∧ w22.cell? ⟨gb306, 4, none⟩ = some (.int .i64 a1_4) ∧ w22.cell? ⟨gb306, 5, none⟩ = some (.int .i64 a1_5) ∧ w22.cell? ⟨gb306, 6, none⟩ = some (.int .i64 a1_6) ∧ w22.cell? ⟨gb306, 7, none⟩ = some (.int .i64 a1_7) ∧ w22.cell? ⟨gb306, 8, none⟩ = some (.int .i64 a1_8) ∧ w22.cell? ⟨gb306, 9, none⟩ = some (.int .i64 a1_9) ∧ w22.cell? ⟨gb306, 10, none⟩ = some (.int .i64 a1_10) ∧ w22.cell? ⟨gb306, 11, none⟩ = some (.int .i64 a1_11) ∧ w22.cell? ⟨gb306, 12, none⟩ = some (.int .i64 a1_12) ∧ w22.cell? ⟨gb306, 13, none⟩ = some (.slice A1_13 l1_13.length c1_13) ∧ w22.cell? (ad308.add ((x8_1).toNat * 10)) = some (.int .i64 ((rd_T79 l2 x8_1).f0)) ∧ w22.cell? ⟨(ad308.add ((x8_1).toNat * 10)).block, (ad308.add ((x8_1).toNat * 10)).off + 1, none⟩ = some (.int .i64 ((rd_T79 l2 x8_1).f1)) ∧ w22.cell? ⟨(ad308.add ((x8_1).toNat * 10)).block, (ad308.add ((x8_1).toNat * 10)).off + 2, none⟩ = some (.int .i64 ((rd_T79 l2 x8_1).f2.f0)) ∧ w22.cell? ⟨(ad308.add ((x8_1).toNat * 10)).block, (ad308.add ((x8_1).toNat * 10)).off + 3, none⟩ = some (.int .i64 ((rd_T79 l2 x8_1).f2.f1)) ∧ w22.cell? ⟨(ad308.add ((x8_1).toNat * 10)).block, (ad308.add ((x8_1).toNat * 10)).off + 4, none⟩ = some (.bool ((rd_T79 l2 x8_1).f2.f2)) ∧ w22.cell? ⟨(ad308.add ((x8_1).toNat * 10)).block, (ad308.add ((x8_1).toNat * 10)).off + 5, none⟩ = some (.int .i64 ((rd_T79 l2 x8_1).f2.f3)) ∧ w22.cell? ⟨(ad308.add ((x8_1).toNat * 10)).block, (ad308.add ((x8_1).toNat * 10)).off + 6, none⟩ = some (.int .i64 ((rd_T79 l2 x8_1).f2.f4)) ∧ w22.cell? ⟨(ad308.add ((x8_1).toNat * 10)).block, (ad308.add ((x8_1).toNat * 10)).off + 7, none⟩ = some (.int .i64 ((rd_T79 l2 x8_1).f2.f5)) ∧ w22.cell? ⟨(ad308.add ((x8_1).toNat * 10)).block, (ad308.add ((x8_1).toNat * 10)).off + 8, none⟩ = some (.int .i64 ((rd_T79 l2 x8_1).f2.f6)) ∧ w22.cell? ⟨(ad308.add ((x8_1).toNat * 10)).block, (ad308.add ((x8_1).toNat * 10)).off + 9, none⟩ = some (.int .i64 ((rd_T79 l2 x8_1).f2.f7)) := hS_
                refine norm_ (a' := ?_) ?_ ?_
                rotate_left
                · simp only [putAll, Act.put, List.setIfInBounds_toArray, List.set_cons_zero, List.set_cons_succ]
                  rfl
                refine one_ (i := 11) (N := none) #[true, true, true, true, true, true, true, true, true, true, true, true, false] rfl rfl (one_of HT_.out (by kernel_rfl)) (by decide) (fun K hK => ?_)
                have hs23 : w22.cell? ⟨gb323, 0, none⟩ = some (.int .i64 0) := (blk_cell BK323.out 0).trans rfl
                have hfs23 := blk_frozen BK323.out 0
                have hns23_0 := NB305_323.out
                have hns23_1 := NB306_323.out
                have hns23_2 := NB307_323.out
                have hms23_0 := NB323_305.out
                have hms23_1 := NB323_306.out
                have hms23_2 := NB323_307.out
                have hs24 : w22.cell? ⟨gb323, 1, none⟩ = some (.int .i64 0) := (blk_cell BK323.out 1).trans rfl
                have hfs24 := blk_frozen BK323.out 1
                have hns24_0 := NB305_323.out
                have hns24_1 := NB306_323.out
                have hns24_2 := NB307_323.out
                have hms24_0 := NB323_305.out
                have hms24_1 := NB323_306.out
                have hms24_2 := NB323_307.out
                have hs25 : w22.cell? ⟨gb323, 2, none⟩ = some (.int .i64 0) := (blk_cell BK323.out 2).trans rfl
                have hfs25 := blk_frozen BK323.out 2
                have hns25_0 := NB305_323.out
                have hns25_1 := NB306_323.out
                have hns25_2 := NB307_323.out
                have hms25_0 := NB323_305.out
                have hms25_1 := NB323_306.out
                have hms25_2 := NB323_307.out
                have hs26 : w22.cell? ⟨gb323, 3, none⟩ = some (.int .i64 0) := (blk_cell BK323.out 3).trans rfl
                have hfs26 := blk_frozen BK323.out 3
                have hns26_0 := NB305_323.out
                have hns26_1 := NB306_323.out
                have hns26_2 := NB307_323.out
                have hms26_0 := NB323_305.out
                have hms26_1 := NB323_306.out
                have hms26_2 := NB323_307.out
                have hs27 : w22.cell? ⟨gb323, 4, none⟩ = some (.int .i64 0) := (blk_cell BK323.out 4).trans rfl
                have hfs27 := blk_frozen BK323.out 4
                have hns27_0 := NB305_323.out
                have hns27_1 := NB306_323.out
                have hns27_2 := NB307_323.out
                have hms27_0 := NB323_305.out
                have hms27_1 := NB323_306.out
                have hms27_2 := NB323_307.out
                have hs28 : w22.cell? ⟨gb323, 5, none⟩ = some (.int .i64 0) := (blk_cell BK323.out 5).trans rfl
                have hfs28 := blk_frozen BK323.out 5
                have hns28_0 := NB305_323.out
                have hns28_1 := NB306_323.out
                have hns28_2 := NB307_323.out
                have hms28_0 := NB323_305.out
                have hms28_1 := NB323_306.out
                have hms28_2 := NB323_307.out
                have hs29 : w22.cell? ⟨gb323, 6, none⟩ = some (.int .i64 0) := (blk_cell BK323.out 6).trans rfl
                have hfs29 := blk_frozen BK323.out 6
                have hns29_0 := NB305_323.out
                have hns29_1 := NB306_323.out
                have hns29_2 := NB307_323.out
                have hms29_0 := NB323_305.out
                have hms29_1 := NB323_306.out
                have hms29_2 := NB323_307.out
                have hs30 : w22.cell? ⟨gb323, 7, none⟩ = some (.int .i64 0) := (blk_cell BK323.out 7).trans rfl
                have hfs30 := blk_frozen BK323.out 7
                have hns30_0 := NB305_323.out
                have hns30_1 := NB306_323.out
                have hns30_2 := NB307_323.out
                have hms30_0 := NB323_305.out
                have hms30_1 := NB323_306.out
                have hms30_2 := NB323_307.out
                have hs31 : w22.cell? ⟨gb323, 8, none⟩ = some (.int .i64 0) := (blk_cell BK323.out 8).trans rfl
                have hfs31 := blk_frozen BK323.out 8
                have hns31_0 := NB305_323.out
                have hns31_1 := NB306_323.out
                have hns31_2 := NB307_323.out
                have hms31_0 := NB323_305.out
                have hms31_1 := NB323_306.out
                have hms31_2 := NB323_307.out
                have hs32 : w22.cell? ⟨gb323, 9, none⟩ = some (.bool false) := (blk_cell BK323.out 9).trans rfl
                have hfs32 := blk_frozen BK323.out 9
                have hns32_0 := NB305_323.out
                have hns32_1 := NB306_323.out
                have hns32_2 := NB307_323.out
                have hms32_0 := NB323_305.out
                have hms32_1 := NB323_306.out
                have hms32_2 := NB323_307.out
                have hs33 : w22.cell? ⟨gb323, 10, none⟩ = some (.int .i64 0) := (blk_cell BK323.out 10).trans rfl
                have hfs33 := blk_frozen BK323.out 10
                have hns33_0 := NB305_323.out
                have hns33_1 := NB306_323.out
                have hns33_2 := NB307_323.out
                have hms33_0 := NB323_305.out
                have hms33_1 := NB323_306.out
                have hms33_2 := NB323_307.out
                have hs34 : w22.cell? ⟨gb323, 11, none⟩ = some (.int .i64 0) := (blk_cell BK323.out 11).trans rfl
                have hfs34 := blk_frozen BK323.out 11
                have hns34_0 := NB305_323.out
                have hns34_1 := NB306_323.out
                have hns34_2 := NB307_323.out
                have hms34_0 := NB323_305.out
                have hms34_1 := NB323_306.out
                have hms34_2 := NB323_307.out
                have hs35 : w22.cell? ⟨gb323, 12, none⟩ = some (.int .i64 0) := (blk_cell BK323.out 12).trans rfl
                have hfs35 := blk_frozen BK323.out 12
                have hns35_0 := NB305_323.out
                have hns35_1 := NB306_323.out
                have hns35_2 := NB307_323.out
                have hms35_0 := NB323_305.out
                have hms35_1 := NB323_306.out
                have hms35_2 := NB323_307.out
                refine skip_ (w1 := ?_) (by rfl) rfl ?_ ?_
                rotate_left
                · go_simp
                  rfl
                refine hK.out _ _ ⟨(by (iterate 13 (refine (cell_far (p := ⟨gb323, _, none⟩) NB307_323.out _).trans ?_)); exact hHeld.1), (by (iterate 13 (refine (cell_far (p := ⟨gb323, _, none⟩) NB307_323.out _).trans ?_)); exact hHeld.2.1), (by (iterate 13 (refine (cell_far (p := ⟨gb323, _, none⟩) NB307_323.out _).trans ?_)); exact hHeld.2.2.1), (by (iterate 13 (refine (cell_far (p := ⟨gb323, _, none⟩) NB307_323.out _).trans ?_)); exact hHeld.2.2.2.1), (by (iterate 13 (refine (cell_far (p := ⟨gb323, _, none⟩) NB307_323.out _).trans ?_)); exact hHeld.2.2.2.2.1), (by (iterate 13 (refine (cell_far (p := ⟨gb323, _, none⟩) NB307_323.out _).trans ?_)); exact hHeld.2.2.2.2.2.1), (by (iterate 13 (refine (cell_far (p := ⟨gb323, _, none⟩) NB307_323.out _).trans ?_)); exact hHeld.2.2.2.2.2.2.1), (by (iterate 13 (refine (cell_far (p := ⟨gb323, _, none⟩) NB307_323.out _).trans ?_)); exact hHeld.2.2.2.2.2.2.2.1), (by (iterate 13 (refine (cell_far (p := ⟨gb323, _, none⟩) NB307_323.out _).trans ?_)); exact hHeld.2.2.2.2.2.2.2.2.1), (by (iterate 13 (refine (cell_far (p := ⟨gb323, _, none⟩) NB307_323.out _).trans ?_)); exact hHeld.2.2.2.2.2.2.2.2.2.1), (by (iterate 13 (refine (cell_far (p := ⟨gb323, _, none⟩) NB307_323.out _).trans ?_)); exact hHeld.2.2.2.2.2.2.2.2.2.2.1), (by (iterate 13 (refine (cell_far (p := ⟨gb323, _, none⟩) NB307_323.out _).trans ?_)); exact hHeld.2.2.2.2.2.2.2.2.2.2.2.1), (by (iterate 13 (refine (cell_far (p := ⟨gb323, _, none⟩) NB307_323.out _).trans ?_)); exact hHeld.2.2.2.2.2.2.2.2.2.2.2.2.1), (by (iterate 13 (refine (cell_far (p := ⟨gb323, _, none⟩) NB306_323.out _).trans ?_)); exact hHeld.2.2.2.2.2.2.2.2.2.2.2.2.2.1), (by (iterate 13 (refine (cell_far (p := ⟨gb323, _, none⟩) NB306_323.out _).trans ?_)); exact hHeld.2.2.2.2.2.2.2.2.2.2.2.2.2.2.1), (by (iterate 13 (refine (cell_far (p := ⟨gb323, _, none⟩) NB306_323.out _).trans ?_)); exact hHeld.2.2.2.2.2.2.2.2.2.2.2.2.2.2.2.1), (by (iterate 13 (refine (cell_far (p := ⟨gb323, _, none⟩) NB306_323.out _).trans ?_)); exact hHeld.2.2.2.2.2.2.2.2.2.2.2.2.2.2.2.2.1), (by (iterate 13 (refine (cell_far (p := ⟨gb323, _, none⟩) NB306_323.out _).trans ?_)); exact hHeld.2.2.2.2.2.2.2.2.2.2.2.2.2.2.2.2.2.1), (by (iterate 13 (refine (cell_far (p := ⟨gb323, _, none⟩) NB306_323.out _).trans ?_)); exact hHeld.2.2.2.2.2.2.2.2.2.2.2.2.2.2.2.2.2.2.1), (by (iterate 13 (refine (cell_far (p := ⟨gb323, _, none⟩) NB306_323.out _).trans ?_)); exact hHeld.2.2.2.2.2.2.2.2.2.2.2.2.2.2.2.2.2.2.2.1), (by (iterate 13 (refine (cell_far (p := ⟨gb323, _, none⟩) NB306_323.out _).trans ?_)); exact hHeld.2.2.2.2.2.2.2.2.2.2.2.2.2.2.2.2.2.2.2.2.1), (by (iterate 13 (refine (cell_far (p := ⟨gb323, _, none⟩) NB306_323.out _).trans ?_)); exact hHeld.2.2.2.2.2.2.2.2.2.2.2.2.2.2.2.2.2.2.2.2.2.1), (by (iterate 13 (refine (cell_far (p := ⟨gb323, _, none⟩) NB306_323.out _).trans ?_)); exact hHeld.2.2.2.2.2.2.2.2.2.2.2.2.2.2.2.2.2.2.2.2.2.2.1), (by (iterate 13 (refine (cell_far (p := ⟨gb323, _, none⟩) NB306_323.out _).trans ?_)); exact hHeld.2.2.2.2.2.2.2.2.2.2.2.2.2.2.2.2.2.2.2.2.2.2.2.1), (by (iterate 13 (refine (cell_far (p := ⟨gb323, _, none⟩) NB306_323.out _).trans ?_)); exact hHeld.2.2.2.2.2.2.2.2.2.2.2.2.2.2.2.2.2.2.2.2.2.2.2.2.1), (by (iterate 13 (refine (cell_far (p := ⟨gb323, _, none⟩) NB306_323.out _).trans ?_)); exact hHeld.2.2.2.2.2.2.2.2.2.2.2.2.2.2.2.2.2.2.2.2.2.2.2.2.2.1), (by (iterate 13 (refine (cell_far (p := ⟨gb323, _, none⟩) NB306_323.out _).trans ?_)); exact hHeld.2.2.2.2.2.2.2.2.2.2.2.2.2.2.2.2.2.2.2.2.2.2.2.2.2.2.1), (by (iterate 13 (refine (cell_far (p := ⟨gb323, _, none⟩) (by first | exact Nat.ne_of_lt (Nat.lt_of_lt_of_le (by have := World.block_lt_of_cell? _ _ hw308_0; first | rwa [add_block] at this | exact this) GW323.out) | (rw [add_block]; exact Nat.ne_of_lt (Nat.lt_of_lt_of_le (by have := World.block_lt_of_cell? _ _ hw308_0; first | rwa [add_block] at this | exact this) GW323.out)) | (show (Addr.add _ _).block ≠ _; rw [add_block]; exact Nat.ne_of_lt (Nat.lt_of_lt_of_le (by have := World.block_lt_of_cell? _ _ hw308_0; first | rwa [add_block] at this | exact this) GW323.out)) | (dsimp only; exact Nat.ne_of_lt (Nat.lt_of_lt_of_le (by have := World.block_lt_of_cell? _ _ hw308_0; first | rwa [add_block] at this | exact this) GW323.out))) _).trans ?_)); exact hHeld.2.2.2.2.2.2.2.2.2.2.2.2.2.2.2.2.2.2.2.2.2.2.2.2.2.2.2.1), (by (iterate 13 (refine (cell_far (p := ⟨gb323, _, none⟩) (by first | exact Nat.ne_of_lt (Nat.lt_of_lt_of_le (by have := World.block_lt_of_cell? _ _ hw308_1; first | rwa [add_block] at this | exact this) GW323.out) | (rw [add_block]; exact Nat.ne_of_lt (Nat.lt_of_lt_of_le (by have := World.block_lt_of_cell? _ _ hw308_1; first | rwa [add_block] at this | exact this) GW323.out)) | (show (Addr.add _ _).block ≠ _; rw [add_block]; exact Nat.ne_of_lt (Nat.lt_of_lt_of_le (by have := World.block_lt_of_cell? _ _ hw308_1; first | rwa [add_block] at this | exact this) GW323.out)) | (dsimp only; exact Nat.ne_of_lt (Nat.lt_of_lt_of_le (by have := World.block_lt_of_cell? _ _ hw308_1; first | rwa [add_block] at this | exact this) GW323.out))) _).trans ?_)); exact hHeld.2.2.2.2.2.2.2.2.2.2.2.2.2.2.2.2.2.2.2.2.2.2.2.2.2.2.2.2.1), (by (iterate 13 (refine (cell_far (p := ⟨gb323, _, none⟩) (by first | exact Nat.ne_of_lt (Nat.lt_of_lt_of_le (by have := World.block_lt_of_cell? _ _ hw308_2; first | rwa [add_block] at this | exact this) GW323.out) | (rw [add_block]; exact Nat.ne_of_lt (Nat.lt_of_lt_of_le (by have := World.block_lt_of_cell? _ _ hw308_2; first | rwa [add_block] at this | exact this) GW323.out)) | (show (Addr.add _ _).block ≠ _; rw [add_block]; exact Nat.ne_of_lt (Nat.lt_of_lt_of_le (by have := World.block_lt_of_cell? _ _ hw308_2; first | rwa [add_block] at this | exact this) GW323.out)) | (dsimp only; exact Nat.ne_of_lt (Nat.lt_of_lt_of_le (by have := World.block_lt_of_cell? _ _ hw308_2; first | rwa [add_block] at this | exact this) GW323.out))) _).trans ?_)); exact hHeld.2.2.2.2.2.2.2.2.2.2.2.2.2.2.2.2.2.2.2.2.2.2.2.2.2.2.2.2.2.1), (by (iterate 13 (refine (cell_far (p := ⟨gb323, _, none⟩) (by first | exact Nat.ne_of_lt (Nat.lt_of_lt_of_le (by have := World.block_lt_of_cell? _ _ hw308_3; first | rwa [add_block] at this | exact this) GW323.out) | (rw [add_block]; exact Nat.ne_of_lt (Nat.lt_of_lt_of_le (by have := World.block_lt_of_cell? _ _ hw308_3; first | rwa [add_block] at this | exact this) GW323.out)) | (show (Addr.add _ _).block ≠ _; rw [add_block]; exact Nat.ne_of_lt (Nat.lt_of_lt_of_le (by have := World.block_lt_of_cell? _ _ hw308_3; first | rwa [add_block] at this | exact this) GW323.out)) | (dsimp only; exact Nat.ne_of_lt (Nat.lt_of_lt_of_le (by have := World.block_lt_of_cell? _ _ hw308_3; first | rwa [add_block] at this | exact this) GW323.out))) _).trans ?_)); exact hHeld.2.2.2.2.2.2.2.2.2.2.2.2.2.2.2.2.2.2.2.2.2.2.2.2.2.2.2.2.2.2.1), (by (iterate 13 (refine (cell_far (p := ⟨gb323, _, none⟩) (by first | exact Nat.ne_of_lt (Nat.lt_of_lt_of_le (by have := World.block_lt_of_cell? _ _ hw308_4; first | rwa [add_block] at this | exact this) GW323.out) | (rw [add_block]; exact Nat.ne_of_lt (Nat.lt_of_lt_of_le (by have := World.block_lt_of_cell? _ _ hw308_4; first | rwa [add_block] at this | exact this) GW323.out)) | (show (Addr.add _ _).block ≠ _; rw [add_block]; exact Nat.ne_of_lt (Nat.lt_of_lt_of_le (by have := World.block_lt_of_cell? _ _ hw308_4; first | rwa [add_block] at this | exact this) GW323.out)) | (dsimp only; exact Nat.ne_of_lt (Nat.lt_of_lt_of_le (by have := World.block_lt_of_cell? _ _ hw308_4; first | rwa [add_block] at this | exact this) GW323.out))) _).trans ?_)); exact hHeld.2.2.2.2.2.2.2.2.2.2.2.2.2.2.2.2.2.2.2.2.2.2.2.2.2.2.2.2.2.2.2.1), (by (iterate 13 (refine (cell_far (p := ⟨gb323, _, none⟩) (by first | exact Nat.ne_of_lt (Nat.lt_of_lt_of_le (by have := World.block_lt_of_cell? _ _ hw308_5; first | rwa [add_block] at this | exact this) GW323.out) | (rw [add_block]; exact Nat.ne_of_lt (Nat.lt_of_lt_of_le (by have := World.block_lt_of_cell? _ _ hw308_5; first | rwa [add_block] at this | exact this) GW323.out)) | (show (Addr.add _ _).block ≠ _; rw [add_block]; exact Nat.ne_of_lt (Nat.lt_of_lt_of_le (by have := World.block_lt_of_cell? _ _ hw308_5; first | rwa [add_block] at this | exact this) GW323.out)) | (dsimp only; exact Nat.ne_of_lt (Nat.lt_of_lt_of_le (by have := World.block_lt_of_cell? _ _ hw308_5; first | rwa [add_block] at this | exact this) GW323.out))) _).trans ?_)); exact hHeld.2.2.2.2.2.2.2.2.2.2.2.2.2.2.2.2.2.2.2.2.2.2.2.2.2.2.2.2.2.2.2.2.1), (by (iterate 13 (refine (cell_far (p := ⟨gb323, _, none⟩) (by first | exact Nat.ne_of_lt (Nat.lt_of_lt_of_le (by have := World.block_lt_of_cell? _ _ hw308_6; first | rwa [add_block] at this | exact this) GW323.out) | (rw [add_block]; exact Nat.ne_of_lt (Nat.lt_of_lt_of_le (by have := World.block_lt_of_cell? _ _ hw308_6; first | rwa [add_block] at this | exact this) GW323.out)) | (show (Addr.add _ _).block ≠ _; rw [add_block]; exact Nat.ne_of_lt (Nat.lt_of_lt_of_le (by have := World.block_lt_of_cell? _ _ hw308_6; first | rwa [add_block] at this | exact this) GW323.out)) | (dsimp only; exact Nat.ne_of_lt (Nat.lt_of_lt_of_le (by have := World.block_lt_of_cell? _ _ hw308_6; first | rwa [add_block] at this | exact this) GW323.out))) _).trans ?_)); exact hHeld.2.2.2.2.2.2.2.2.2.2.2.2.2.2.2.2.2.2.2.2.2.2.2.2.2.2.2.2.2.2.2.2.2.1), (by (iterate 13 (refine (cell_far (p := ⟨gb323, _, none⟩) (by first | exact Nat.ne_of_lt (Nat.lt_of_lt_of_le (by have := World.block_lt_of_cell? _ _ hw308_7; first | rwa [add_block] at this | exact this) GW323.out) | (rw [add_block]; exact Nat.ne_of_lt (Nat.lt_of_lt_of_le (by have := World.block_lt_of_cell? _ _ hw308_7; first | rwa [add_block] at this | exact this) GW323.out)) | (show (Addr.add _ _).block ≠ _; rw [add_block]; exact Nat.ne_of_lt (Nat.lt_of_lt_of_le (by have := World.block_lt_of_cell? _ _ hw308_7; first | rwa [add_block] at this | exact this) GW323.out)) | (dsimp only; exact Nat.ne_of_lt (Nat.lt_of_lt_of_le (by have := World.block_lt_of_cell? _ _ hw308_7; first | rwa [add_block] at this | exact this) GW323.out))) _).trans ?_)); exact hHeld.2.2.2.2.2.2.2.2.2.2.2.2.2.2.2.2.2.2.2.2.2.2.2.2.2.2.2.2.2.2.2.2.2.2.1), (by (iterate 13 (refine (cell_far (p := ⟨gb323, _, none⟩) (by first | exact Nat.ne_of_lt (Nat.lt_of_lt_of_le (by have := World.block_lt_of_cell? _ _ hw308_8; first | rwa [add_block] at this | exact this) GW323.out) | (rw [add_block]; exact Nat.ne_of_lt (Nat.lt_of_lt_of_le (by have := World.block_lt_of_cell? _ _ hw308_8; first | rwa [add_block] at this | exact this) GW323.out)) | (show (Addr.add _ _).block ≠ _; rw [add_block]; exact Nat.ne_of_lt (Nat.lt_of_lt_of_le (by have := World.block_lt_of_cell? _ _ hw308_8; first | rwa [add_block] at this | exact this) GW323.out)) | (dsimp only; exact Nat.ne_of_lt (Nat.lt_of_lt_of_le (by have := World.block_lt_of_cell? _ _ hw308_8; first | rwa [add_block] at this | exact this) GW323.out))) _).trans ?_)); exact hHeld.2.2.2.2.2.2.2.2.2.2.2.2.2.2.2.2.2.2.2.2.2.2.2.2.2.2.2.2.2.2.2.2.2.2.2.1), (by (iterate 13 (refine (cell_far (p := ⟨gb323, _, none⟩) (by first | exact Nat.ne_of_lt (Nat.lt_of_lt_of_le (by have := World.block_lt_of_cell? _ _ hw308_9; first | rwa [add_block] at this | exact this) GW323.out) | (rw [add_block]; exact Nat.ne_of_lt (Nat.lt_of_lt_of_le (by have := World.block_lt_of_cell? _ _ hw308_9; first | rwa [add_block] at this | exact this) GW323.out)) | (show (Addr.add _ _).block ≠ _; rw [add_block]; exact Nat.ne_of_lt (Nat.lt_of_lt_of_le (by have := World.block_lt_of_cell? _ _ hw308_9; first | rwa [add_block] at this | exact this) GW323.out)) | (dsimp only; exact Nat.ne_of_lt (Nat.lt_of_lt_of_le (by have := World.block_lt_of_cell? _ _ hw308_9; first | rwa [add_block] at this | exact this) GW323.out))) _).trans ?_)); exact hHeld.2.2.2.2.2.2.2.2.2.2.2.2.2.2.2.2.2.2.2.2.2.2.2.2.2.2.2.2.2.2.2.2.2.2.2.2)⟩ (fun hHeld => ?_)
                clear hK K
                refine pure_ (i := 12) (N := some 10) (v := ?_) (a' := ?_) #[true, true, true, true, true, true, true, true, true, true, true, true, true] rfl rfl (any_of HT_.out (by kernel_rfl)) (fun _ _ _ h => h) (Or.inl ⟨by rfl, ?_⟩) ?_ ?_
                rotate_left
                · intro w'
                  go_simp
                  with_reducible rfl
                rotate_left
                · simp only [Act.put, List.setIfInBounds_toArray, List.set_cons_zero, List.set_cons_succ, i64_w, i32_w]
                  rfl
                refine done_ (done_of HT_.out (by kernel_rfl)) ?_
                go_upto_region 6 with (fail)
                go_cut [40] (fun v40 wc => ∃ (kq : Nat) (x40_17 : Bool), v40 = .bool x40_17 ∧ Aside0 (hourglasslaw21_CallBounds.j2 kq l2 x8_1 x40_17 a1_0 a1_1 a1_2 a1_3 a1_4 a1_5 a1_6 a1_7 a1_8 a1_9 a1_10 a1_11 a1_12 l1_13 x308000_1 x308001_1 x308002_1 x308003_1 x308004_1 x308005_1 x308006_1 x308007_1 x308008_1 x308009_1 x308010_1 x308011_1 x308012_1 t309 t310 t311 t312 t313 t314 t315 t316 t317 t318 t319 t320 t321 = some r) ∧ Aside0 (kq ≤ kj11) ∧ Aside0 (wc.heap[gb305]? = some (.cells #[.int .i64 a0_0, .int .i64 a0_1, .int .i64 a0_2] 23 (0, 0))) ∧ Aside0 (wc.heap[gb306]? = some (.cells #[.int .i64 a1_0, .int .i64 a1_1, .int .i64 a1_2, .int .i64 a1_3, .int .i64 a1_4, .int .i64 a1_5, .int .i64 a1_6, .int .i64 a1_7, .int .i64 a1_8, .int .i64 a1_9, .int .i64 a1_10, .int .i64 a1_11, .int .i64 a1_12, (.slice A1_13 l1_13.length c1_13)] 72 (0, 0))) ∧ Aside0 (wc.heap[gb307]? = some (.cells #[.int .i64 x308000_1, .int .i64 x308001_1, .int .i64 x308002_1, .int .i64 x308003_1, .int .i64 x308004_1, .int .i64 x308005_1, .int .i64 x308006_1, .int .i64 x308007_1, .int .i64 x308008_1, .bool x308009_1, .int .i64 x308010_1, .int .i64 x308011_1, .int .i64 x308012_1] 58 (0, 0))) ∧ Aside0 (wc.heap[gb323]? = some (.cells #[.int .i64 t309, .int .i64 t310, .int .i64 t311, .int .i64 t312, .int .i64 t313, .int .i64 t314, .int .i64 t315, .int .i64 t316, .int .i64 t317, .bool t318, .int .i64 t319, .int .i64 t320, .int .i64 t321] 58 (0, 0))) ∧ Aside0 (Below w.heap.size w wc))
                case first =>
                  have H := HC18.out
                  clear HC18
                  by_cases c36 : x308006_1 = 3
                  · rw [if_pos c36] at H
                    have c36b0 : (x308006_1 == 3) = true := beq_iff_eq.mpr c36
                    have c36b1 : (x308006_1 != 3) = false := bne_eq_false_iff_eq.mpr c36
                    clear c36
                    (first | rw [c36b0] | (simp only [i64_w, i32_w]; rw [c36b0]) | skip)
                    have H' := Aside0.mk H
                    clear H
                    have hnb37 := NB307_305.out
                    have hnc37 := NB305_307.out
                    have hnb38 := NB307_306.out
                    have hnc38 := NB306_307.out
                    have hnb39 := NB307_323.out
                    have hnc39 := NB323_307.out
                    obtain ⟨hcz40_0, hcz40_1, hcz40_2, hcz40_3, hcz40_4, hcz40_5, hcz40_6, hcz40_7, hcz40_8, hcz40_9, hcz40_10, hcz40_11, hcz40_12⟩ := bc13 BK307.out; obtain ⟨hfz40_0, hfz40_1, hfz40_2, hfz40_3, hfz40_4, hfz40_5, hfz40_6, hfz40_7, hfz40_8, hfz40_9, hfz40_10, hfz40_11, hfz40_12⟩ := bf13 BK307.out
                    have hnb41 := NB323_305.out
                    have hnc41 := NB305_323.out
                    have hnb42 := NB323_306.out
                    have hnc42 := NB306_323.out
                    obtain ⟨hcz43_0, hcz43_1, hcz43_2, hcz43_3, hcz43_4, hcz43_5, hcz43_6, hcz43_7, hcz43_8, hcz43_9, hcz43_10, hcz43_11, hcz43_12⟩ := bc13 BK323.out; obtain ⟨hfz43_0, hfz43_1, hfz43_2, hfz43_3, hfz43_4, hfz43_5, hfz43_6, hfz43_7, hfz43_8, hfz43_9, hfz43_10, hfz43_11, hfz43_12⟩ := bf13 BK323.out
                    go_wp2
                    go_meet
                    case rel => exact ⟨_, (((!(t309 == x308000_1) || (!(t310 == x308001_1) || (!(t311 == x308002_1)))) || (!(t312 == x308003_1) || (!(t313 == x308004_1) || (!(t314 == x308005_1) || (!(t315 == x308006_1) || (!(t316 == x308007_1) || (!(t317 == x308008_1) || (!(t318 == x308009_1) || (!(t319 == x308010_1) || (!(t320 == x308011_1) || (!(t321 == x308012_1))))))))))))), (by first | rfl | (simp; done) | (simp [*]; done)), H', ⟨by have := HK1.out; have := HJ11.out; first | omega | exact Nat.le_refl _⟩, ⟨by (iterate 13 ((with_reducible repeat (first | refine bN ?_ _ | refine bD ?_ | refine bA ?_ _)); refine blk_far ?_ NB305_323.out _)); (with_reducible repeat (first | refine bN ?_ _ | refine bD ?_ | refine bA ?_ _)); exact BK305.out⟩, ⟨by (iterate 13 ((with_reducible repeat (first | refine bN ?_ _ | refine bD ?_ | refine bA ?_ _)); refine blk_far ?_ NB306_323.out _)); (with_reducible repeat (first | refine bN ?_ _ | refine bD ?_ | refine bA ?_ _)); exact BK306.out⟩, ⟨by (iterate 13 ((with_reducible repeat (first | refine bN ?_ _ | refine bD ?_ | refine bA ?_ _)); refine blk_far ?_ NB307_323.out _)); (with_reducible repeat (first | refine bN ?_ _ | refine bD ?_ | refine bA ?_ _)); exact BK307.out⟩, ⟨by (with_reducible repeat (first | refine bN ?_ _ | refine bD ?_ | refine bA ?_ _)); apply bq; (with_reducible repeat (first | refine bN ?_ _ | refine bD ?_ | refine bA ?_ _)); apply bq; (with_reducible repeat (first | refine bN ?_ _ | refine bD ?_ | refine bA ?_ _)); apply bq; (with_reducible repeat (first | refine bN ?_ _ | refine bD ?_ | refine bA ?_ _)); apply bq; (with_reducible repeat (first | refine bN ?_ _ | refine bD ?_ | refine bA ?_ _)); apply bq; (with_reducible repeat (first | refine bN ?_ _ | refine bD ?_ | refine bA ?_ _)); apply bq; (with_reducible repeat (first | refine bN ?_ _ | refine bD ?_ | refine bA ?_ _)); apply bq; (with_reducible repeat (first | refine bN ?_ _ | refine bD ?_ | refine bA ?_ _)); apply bq; (with_reducible repeat (first | refine bN ?_ _ | refine bD ?_ | refine bA ?_ _)); apply bq; (with_reducible repeat (first | refine bN ?_ _ | refine bD ?_ | refine bA ?_ _)); apply bq; (with_reducible repeat (first | refine bN ?_ _ | refine bD ?_ | refine bA ?_ _)); apply bq; (with_reducible repeat (first | refine bN ?_ _ | refine bD ?_ | refine bA ?_ _)); apply bq; (with_reducible repeat (first | refine bN ?_ _ | refine bD ?_ | refine bA ?_ _)); apply bq; (with_reducible repeat (first | refine bN ?_ _ | refine bD ?_ | refine bA ?_ _)); exact BK323.out; all_goals rfl⟩, ⟨by repeat (first | (with_reducible first | exact HB.out | apply pA | apply pN | apply pD | refine pS ?_ GE305.out | refine pS ?_ GE306.out | refine pS ?_ GE307.out | refine pS ?_ GE323.out) | exact HB.out)⟩⟩
                  · rw [if_neg c36] at H
                    have c36b0 : (x308006_1 == 3) = false := beq_eq_false_iff_ne.mpr c36
                    have c36b1 : (x308006_1 != 3) = true := bne_iff_ne.mpr c36
                    (first | rw [c36b0] | (simp only [i64_w, i32_w]; rw [c36b0]) | skip)
                    have H' := Aside0.mk H
                    clear H
                    have hnb44 := NB307_305.out
                    have hnc44 := NB305_307.out
                    have hnb45 := NB307_306.out
                    have hnc45 := NB306_307.out
                    have hnb46 := NB307_323.out
                    have hnc46 := NB323_307.out
                    obtain ⟨hcz47_0, hcz47_1, hcz47_2, hcz47_3, hcz47_4, hcz47_5, hcz47_6, hcz47_7, hcz47_8, hcz47_9, hcz47_10, hcz47_11, hcz47_12⟩ := bc13 BK307.out; obtain ⟨hfz47_0, hfz47_1, hfz47_2, hfz47_3, hfz47_4, hfz47_5, hfz47_6, hfz47_7, hfz47_8, hfz47_9, hfz47_10, hfz47_11, hfz47_12⟩ := bf13 BK307.out
                    go_wp2
                    go_meet
                    case rel => exact ⟨_, (false), (by first | rfl | (simp; done) | (simp [*]; done)), H', ⟨by have := HK1.out; have := HJ11.out; first | omega | exact Nat.le_refl _⟩, ⟨by (iterate 13 ((with_reducible repeat (first | refine bN ?_ _ | refine bD ?_ | refine bA ?_ _)); refine blk_far ?_ NB305_323.out _)); (with_reducible repeat (first | refine bN ?_ _ | refine bD ?_ | refine bA ?_ _)); exact BK305.out⟩, ⟨by (iterate 13 ((with_reducible repeat (first | refine bN ?_ _ | refine bD ?_ | refine bA ?_ _)); refine blk_far ?_ NB306_323.out _)); (with_reducible repeat (first | refine bN ?_ _ | refine bD ?_ | refine bA ?_ _)); exact BK306.out⟩, ⟨by (iterate 13 ((with_reducible repeat (first | refine bN ?_ _ | refine bD ?_ | refine bA ?_ _)); refine blk_far ?_ NB307_323.out _)); (with_reducible repeat (first | refine bN ?_ _ | refine bD ?_ | refine bA ?_ _)); exact BK307.out⟩, ⟨by (with_reducible repeat (first | refine bN ?_ _ | refine bD ?_ | refine bA ?_ _)); apply bq; (with_reducible repeat (first | refine bN ?_ _ | refine bD ?_ | refine bA ?_ _)); apply bq; (with_reducible repeat (first | refine bN ?_ _ | refine bD ?_ | refine bA ?_ _)); apply bq; (with_reducible repeat (first | refine bN ?_ _ | refine bD ?_ | refine bA ?_ _)); apply bq; (with_reducible repeat (first | refine bN ?_ _ | refine bD ?_ | refine bA ?_ _)); apply bq; (with_reducible repeat (first | refine bN ?_ _ | refine bD ?_ | refine bA ?_ _)); apply bq; (with_reducible repeat (first | refine bN ?_ _ | refine bD ?_ | refine bA ?_ _)); apply bq; (with_reducible repeat (first | refine bN ?_ _ | refine bD ?_ | refine bA ?_ _)); apply bq; (with_reducible repeat (first | refine bN ?_ _ | refine bD ?_ | refine bA ?_ _)); apply bq; (with_reducible repeat (first | refine bN ?_ _ | refine bD ?_ | refine bA ?_ _)); apply bq; (with_reducible repeat (first | refine bN ?_ _ | refine bD ?_ | refine bA ?_ _)); apply bq; (with_reducible repeat (first | refine bN ?_ _ | refine bD ?_ | refine bA ?_ _)); apply bq; (with_reducible repeat (first | refine bN ?_ _ | refine bD ?_ | refine bA ?_ _)); apply bq; (with_reducible repeat (first | refine bN ?_ _ | refine bD ?_ | refine bA ?_ _)); exact BK323.out; all_goals rfl⟩, ⟨by repeat (first | (with_reducible first | exact HB.out | apply pA | apply pN | apply pD | refine pS ?_ GE305.out | refine pS ?_ GE306.out | refine pS ?_ GE307.out | refine pS ?_ GE323.out) | exact HB.out)⟩⟩
                case rest =>
                  clear HC18
                  try clear c1
                  try clear p2
                  try clear c3
                  try clear p3
                  try clear q3
                  try clear hx3
                  try clear c4
                  try clear c14
                  try clear c15
                  try clear c15b0
                  try clear c16
                  try clear c16b0
                  try clear p30
                  try clear q30
                  try clear hx30
                  try clear c36
                  try clear c36b0
                  try clear c36b1
                  try clear c37
                  try clear c38
                  try clear c39
                  try clear c41
                  try clear c42
                  try clear c44
                  try clear c45
                  try clear c46
                  try clear hcz40_0
                  try clear hcz40_1
                  try clear hcz40_10
                  try clear hcz40_11
                  try clear hcz40_12
                  try clear hcz40_2
                  try clear hcz40_3
                  try clear hcz40_4
                  try clear hcz40_5
                  try clear hcz40_6
                  try clear hcz40_7
                  try clear hcz40_8
                  try clear hcz40_9
                  try clear hcz43_0
                  try clear hcz43_1
                  try clear hcz43_10
                  try clear hcz43_11
                  try clear hcz43_12
                  try clear hcz43_2
                  try clear hcz43_3
                  try clear hcz43_4
                  try clear hcz43_5
                  try clear hcz43_6
                  try clear hcz43_7
                  try clear hcz43_8
                  try clear hcz43_9
                  try clear hcz47_0
                  try clear hcz47_1
                  try clear hcz47_10
                  try clear hcz47_11
                  try clear hcz47_12
                  try clear hcz47_2
                  try clear hcz47_3
                  try clear hcz47_4
                  try clear hcz47_5
                  try clear hcz47_6
                  try clear hcz47_7
                  try clear hcz47_8
                  try clear hcz47_9
                  try clear hfz40_0
                  try clear hfz40_1
                  try clear hfz40_10
                  try clear hfz40_11
                  try clear hfz40_12
                  try clear hfz40_2
                  try clear hfz40_3
                  try clear hfz40_4
                  try clear hfz40_5
                  try clear hfz40_6
                  try clear hfz40_7
                  try clear hfz40_8
                  try clear hfz40_9
                  try clear hfz43_0
                  try clear hfz43_1
                  try clear hfz43_10
                  try clear hfz43_11
                  try clear hfz43_12
                  try clear hfz43_2
                  try clear hfz43_3
                  try clear hfz43_4
                  try clear hfz43_5
                  try clear hfz43_6
                  try clear hfz43_7
                  try clear hfz43_8
                  try clear hfz43_9
                  try clear hfz47_0
                  try clear hfz47_1
                  try clear hfz47_10
                  try clear hfz47_11
                  try clear hfz47_12
                  try clear hfz47_2
                  try clear hfz47_3
                  try clear hfz47_4
                  try clear hfz47_5
                  try clear hfz47_6
                  try clear hfz47_7
                  try clear hfz47_8
                  try clear hfz47_9
                  try clear hx308_0
                  try clear hx308_1
                  try clear hx308_2
                  try clear hx308_3
                  try clear hx308_4
                  try clear hx308_5
                  try clear hx308_6
                  try clear hx308_7
                  try clear hx308_8
                  try clear hx308_9
                  try clear p308
                  try clear q308
                  obtain ⟨kq, x40_17, rfl, HA, HJ17, BK305, BK306, BK307, BK323, HB⟩ := hcut
                  cases kq with
                  | zero => exact absurd HA.out (by simp [hourglasslaw21_CallBounds.j2])
                  | succ kj17 =>
                    have H := HA.out
                    clear HA
                    simp only [hourglasslaw21_CallBounds.j2] at H
                    by_cases c48 : x40_17 = true
                    · subst c48
                      have H1 : (some false) = some r := by rw [if_pos rfl] at H; exact H
                      clear H
                      have H := H1
                      clear H1
                      exact absurd (Option.some.inj H) (by rw [HRT.out]; decide)
                    · replace c48 := Bool.eq_false_iff.mpr c48
                      subst c48
                      have H1 : (if 0 ≤ x8_1 then (if x8_1 < (l2.length : Int) then (if ((rd_T79 l2 x8_1).f0) ≥ 5 then (if ((rd_T79 l2 x8_1).f0) ≤ 7 then (if x308006_1 = 1 then (if x308009_1 = true then (hourglasslaw21_CallBounds.j3 kj17 l2 x8_1 (t315 != 3) a1_0 a1_1 a1_2 a1_3 a1_4 a1_5 a1_6 a1_7 a1_8 a1_9 a1_10 a1_11 a1_12 l1_13 x308000_1 x308001_1 x308002_1 x308003_1 x308004_1 x308005_1 x308006_1 x308007_1 x308008_1 x308009_1 x308010_1 x308011_1 x308012_1 t309 t310 t311 t312 t313 t314 t315 t316 t317 t318 t319 t320 t321) else (if x308005_1 ≥ a1_8 then (hourglasslaw21_CallBounds.j3 kj17 l2 x8_1 (t315 != 3) a1_0 a1_1 a1_2 a1_3 a1_4 a1_5 a1_6 a1_7 a1_8 a1_9 a1_10 a1_11 a1_12 l1_13 x308000_1 x308001_1 x308002_1 x308003_1 x308004_1 x308005_1 x308006_1 x308007_1 x308008_1 x308009_1 x308010_1 x308011_1 x308012_1 t309 t310 t311 t312 t313 t314 t315 t316 t317 t318 t319 t320 t321) else (hourglasslaw21_CallBounds.j3 kj17 l2 x8_1 false a1_0 a1_1 a1_2 a1_3 a1_4 a1_5 a1_6 a1_7 a1_8 a1_9 a1_10 a1_11 a1_12 l1_13 x308000_1 x308001_1 x308002_1 x308003_1 x308004_1 x308005_1 x308006_1 x308007_1 x308008_1 x308009_1 x308010_1 x308011_1 x308012_1 t309 t310 t311 t312 t313 t314 t315 t316 t317 t318 t319 t320 t321))) else (hourglasslaw21_CallBounds.j3 kj17 l2 x8_1 false a1_0 a1_1 a1_2 a1_3 a1_4 a1_5 a1_6 a1_7 a1_8 a1_9 a1_10 a1_11 a1_12 l1_13 x308000_1 x308001_1 x308002_1 x308003_1 x308004_1 x308005_1 x308006_1 x308007_1 x308008_1 x308009_1 x308010_1 x308011_1 x308012_1 t309 t310 t311 t312 t313 t314 t315 t316 t317 t318 t319 t320 t321)) else (hourglasslaw21_CallBounds.j3 kj17 l2 x8_1 false a1_0 a1_1 a1_2 a1_3 a1_4 a1_5 a1_6 a1_7 a1_8 a1_9 a1_10 a1_11 a1_12 l1_13 x308000_1 x308001_1 x308002_1 x308003_1 x308004_1 x308005_1 x308006_1 x308007_1 x308008_1 x308009_1 x308010_1 x308011_1 x308012_1 t309 t310 t311 t312 t313 t314 t315 t316 t317 t318 t319 t320 t321)) else (hourglasslaw21_CallBounds.j3 kj17 l2 x8_1 false a1_0 a1_1 a1_2 a1_3 a1_4 a1_5 a1_6 a1_7 a1_8 a1_9 a1_10 a1_11 a1_12 l1_13 x308000_1 x308001_1 x308002_1 x308003_1 x308004_1 x308005_1 x308006_1 x308007_1 x308008_1 x308009_1 x308010_1 x308011_1 x308012_1 t309 t310 t311 t312 t313 t314 t315 t316 t317 t318 t319 t320 t321)) else (none)) else (none)) = some r := by rw [if_neg (show ¬ (false = true) by decide)] at H; exact H
                      clear H
                      have H := H1
                      clear H1
                      have HC49 := Aside0.mk H
                      clear H
                      go_upto_region 8 with (fail)
                      go_cut [75] (fun v75 wc => ∃ (kq : Nat) (x75_48 : Bool), v75 = .bool x75_48 ∧ Aside0 (hourglasslaw21_CallBounds.j3 kq l2 x8_1 x75_48 a1_0 a1_1 a1_2 a1_3 a1_4 a1_5 a1_6 a1_7 a1_8 a1_9 a1_10 a1_11 a1_12 l1_13 x308000_1 x308001_1 x308002_1 x308003_1 x308004_1 x308005_1 x308006_1 x308007_1 x308008_1 x308009_1 x308010_1 x308011_1 x308012_1 t309 t310 t311 t312 t313 t314 t315 t316 t317 t318 t319 t320 t321 = some r) ∧ Aside0 (kq ≤ kj17) ∧ Aside0 (wc.heap[gb305]? = some (.cells #[.int .i64 a0_0, .int .i64 a0_1, .int .i64 a0_2] 23 (0, 0))) ∧ Aside0 (wc.heap[gb306]? = some (.cells #[.int .i64 a1_0, .int .i64 a1_1, .int .i64 a1_2, .int .i64 a1_3, .int .i64 a1_4, .int .i64 a1_5, .int .i64 a1_6, .int .i64 a1_7, .int .i64 a1_8, .int .i64 a1_9, .int .i64 a1_10, .int .i64 a1_11, .int .i64 a1_12, (.slice A1_13 l1_13.length c1_13)] 72 (0, 0))) ∧ Aside0 (wc.heap[gb307]? = some (.cells #[.int .i64 x308000_1, .int .i64 x308001_1, .int .i64 x308002_1, .int .i64 x308003_1, .int .i64 x308004_1, .int .i64 x308005_1, .int .i64 x308006_1, .int .i64 x308007_1, .int .i64 x308008_1, .bool x308009_1, .int .i64 x308010_1, .int .i64 x308011_1, .int .i64 x308012_1] 58 (0, 0))) ∧ Aside0 (wc.heap[gb323]? = some (.cells #[.int .i64 t309, .int .i64 t310, .int .i64 t311, .int .i64 t312, .int .i64 t313, .int .i64 t314, .int .i64 t315, .int .i64 t316, .int .i64 t317, .bool t318, .int .i64 t319, .int .i64 t320, .int .i64 t321] 58 (0, 0))) ∧ Aside0 (Below w.heap.size w wc))
                      case first =>
                        have H := HC49.out
                        clear HC49
                        by_cases c50 : 0 ≤ x8_1
                        · rw [if_pos c50] at H
                          have c50b0 : decide (0 ≤ x8_1) = true := decide_eq_true c50
                          clear c50
                          (first | rw [c50b0] | (simp only [i64_w, i32_w]; rw [c50b0]) | skip)
                          by_cases c51 : x8_1 < (l2.length : Int)
                          · rw [if_pos c51] at H
                            have c51b0 : decide (x8_1 < (l2.length : Int)) = true := decide_eq_true c51
                            clear c51
                            by_cases c52 : ((rd_T79 l2 x8_1).f0) ≥ 5
                            · rw [if_pos c52] at H
                              have c52b0 : decide (5 ≤ ((rd_T79 l2 x8_1).f0)) = true := decide_eq_true c52
                              clear c52
                              by_cases c53 : ((rd_T79 l2 x8_1).f0) ≤ 7
                              · rw [if_pos c53] at H
                                have c53b0 : decide (((rd_T79 l2 x8_1).f0) ≤ 7) = true := decide_eq_true c53
                                clear c53
                                by_cases c54 : x308006_1 = 1
                                · rw [if_pos c54] at H
                                  have c54b0 : (x308006_1 == 1) = true := beq_iff_eq.mpr c54
                                  have c54b1 : (x308006_1 != 1) = false := bne_eq_false_iff_eq.mpr c54
                                  clear c54
                                  by_cases c55 : x308009_1 = true
                                  · subst c55
                                    have H1 : (hourglasslaw21_CallBounds.j3 kj17 l2 x8_1 (t315 != 3) a1_0 a1_1 a1_2 a1_3 a1_4 a1_5 a1_6 a1_7 a1_8 a1_9 a1_10 a1_11 a1_12 l1_13 x308000_1 x308001_1 x308002_1 x308003_1 x308004_1 x308005_1 x308006_1 x308007_1 x308008_1 true x308010_1 x308011_1 x308012_1 t309 t310 t311 t312 t313 t314 t315 t316 t317 t318 t319 t320 t321) = some r := by rw [if_pos rfl] at H; exact H
                                    clear H
                                    have H := H1
                                    clear H1
                                    have H' := Aside0.mk H
                                    clear H
                                    have p324 : 0 ≤ (x8_1 : Int) := of_decide_eq_true (by first | (with_reducible assumption) | assumption)
                                    have q324 : x8_1 < (l2.length : Int) := of_decide_eq_true (by first | (with_reducible assumption) | assumption)
                                    obtain ⟨ad324, e324, hx324_0, hx324_1, hx324_2, hx324_3, hx324_4, hx324_5, hx324_6, hx324_7, hx324_8, hx324_9⟩ := at_T79 HR2.out x8_1 p324 q324
                                    obtain rfl : ad308 = ad324 := (by injection e324)
                                    replace hx324_0 := (HB.out.cell (World.block_lt_of_cell? w _ hx324_0)).trans hx324_0
                                    replace hx324_1 := (HB.out.cell (World.block_lt_of_cell? w _ hx324_1)).trans hx324_1
                                    replace hx324_2 := (HB.out.cell (World.block_lt_of_cell? w _ hx324_2)).trans hx324_2
                                    replace hx324_3 := (HB.out.cell (World.block_lt_of_cell? w _ hx324_3)).trans hx324_3
                                    replace hx324_4 := (HB.out.cell (World.block_lt_of_cell? w _ hx324_4)).trans hx324_4
                                    replace hx324_5 := (HB.out.cell (World.block_lt_of_cell? w _ hx324_5)).trans hx324_5
                                    replace hx324_6 := (HB.out.cell (World.block_lt_of_cell? w _ hx324_6)).trans hx324_6
                                    replace hx324_7 := (HB.out.cell (World.block_lt_of_cell? w _ hx324_7)).trans hx324_7
                                    replace hx324_8 := (HB.out.cell (World.block_lt_of_cell? w _ hx324_8)).trans hx324_8
                                    replace hx324_9 := (HB.out.cell (World.block_lt_of_cell? w _ hx324_9)).trans hx324_9
                                    replace p324 := eq_true p324
                                    replace q324 := eq_true q324
                                    have p325 : 0 ≤ (x8_1 : Int) := of_decide_eq_true (by first | (with_reducible assumption) | assumption)
                                    have q325 : x8_1 < (l2.length : Int) := of_decide_eq_true (by first | (with_reducible assumption) | assumption)
                                    obtain ⟨ad325, e325, hx325_0, hx325_1, hx325_2, hx325_3, hx325_4, hx325_5, hx325_6, hx325_7, hx325_8, hx325_9⟩ := at_T79 HR2.out x8_1 p325 q325
                                    obtain rfl : ad308 = ad325 := (by injection e325)
                                    replace hx325_0 := (HB.out.cell (World.block_lt_of_cell? w _ hx325_0)).trans hx325_0
                                    replace hx325_1 := (HB.out.cell (World.block_lt_of_cell? w _ hx325_1)).trans hx325_1
                                    replace hx325_2 := (HB.out.cell (World.block_lt_of_cell? w _ hx325_2)).trans hx325_2
                                    replace hx325_3 := (HB.out.cell (World.block_lt_of_cell? w _ hx325_3)).trans hx325_3
                                    replace hx325_4 := (HB.out.cell (World.block_lt_of_cell? w _ hx325_4)).trans hx325_4
                                    replace hx325_5 := (HB.out.cell (World.block_lt_of_cell? w _ hx325_5)).trans hx325_5
                                    replace hx325_6 := (HB.out.cell (World.block_lt_of_cell? w _ hx325_6)).trans hx325_6
                                    replace hx325_7 := (HB.out.cell (World.block_lt_of_cell? w _ hx325_7)).trans hx325_7
                                    replace hx325_8 := (HB.out.cell (World.block_lt_of_cell? w _ hx325_8)).trans hx325_8
                                    replace hx325_9 := (HB.out.cell (World.block_lt_of_cell? w _ hx325_9)).trans hx325_9
                                    replace p325 := eq_true p325
                                    replace q325 := eq_true q325
                                    have hnb56 := NB307_305.out
                                    have hnc56 := NB305_307.out
                                    have hnb57 := NB307_306.out
                                    have hnc57 := NB306_307.out
                                    have hnb58 := NB307_323.out
                                    have hnc58 := NB323_307.out
                                    obtain ⟨hcz59_0, hcz59_1, hcz59_2, hcz59_3, hcz59_4, hcz59_5, hcz59_6, hcz59_7, hcz59_8, hcz59_9, hcz59_10, hcz59_11, hcz59_12⟩ := bc13 BK307.out; obtain ⟨hfz59_0, hfz59_1, hfz59_2, hfz59_3, hfz59_4, hfz59_5, hfz59_6, hfz59_7, hfz59_8, hfz59_9, hfz59_10, hfz59_11, hfz59_12⟩ := bf13 BK307.out
                                    have hnb60 := NB323_305.out
                                    have hnc60 := NB305_323.out
                                    have hnb61 := NB323_306.out
                                    have hnc61 := NB306_323.out
                                    obtain ⟨hcz62_0, hcz62_1, hcz62_2, hcz62_3, hcz62_4, hcz62_5, hcz62_6, hcz62_7, hcz62_8, hcz62_9, hcz62_10, hcz62_11, hcz62_12⟩ := bc13 BK323.out; obtain ⟨hfz62_0, hfz62_1, hfz62_2, hfz62_3, hfz62_4, hfz62_5, hfz62_6, hfz62_7, hfz62_8, hfz62_9, hfz62_10, hfz62_11, hfz62_12⟩ := bf13 BK323.out
                                    go_wp2
                                    go_meet
                                    case rel => exact ⟨_, ((t315 != 3)), (by first | rfl | (simp; done) | (simp [*]; done)), H', ⟨by have := HK1.out; have := HJ11.out; have := HJ17.out; first | omega | exact Nat.le_refl _⟩, ⟨by (with_reducible repeat (first | refine bN ?_ _ | refine bD ?_ | refine bA ?_ _)); exact BK305.out⟩, ⟨by (with_reducible repeat (first | refine bN ?_ _ | refine bD ?_ | refine bA ?_ _)); exact BK306.out⟩, ⟨by (with_reducible repeat (first | refine bN ?_ _ | refine bD ?_ | refine bA ?_ _)); exact BK307.out⟩, ⟨by (with_reducible repeat (first | refine bN ?_ _ | refine bD ?_ | refine bA ?_ _)); exact BK323.out⟩, ⟨by repeat (first | (with_reducible first | exact HB.out | apply pA | apply pN | apply pD | refine pS ?_ GE305.out | refine pS ?_ GE306.out | refine pS ?_ GE307.out | refine pS ?_ GE323.out) | exact HB.out)⟩⟩
                                  · replace c55 := Bool.eq_false_iff.mpr c55
                                    subst c55
                                    have H1 : (if x308005_1 ≥ a1_8 then (hourglasslaw21_CallBounds.j3 kj17 l2 x8_1 (t315 != 3) a1_0 a1_1 a1_2 a1_3 a1_4 a1_5 a1_6 a1_7 a1_8 a1_9 a1_10 a1_11 a1_12 l1_13 x308000_1 x308001_1 x308002_1 x308003_1 x308004_1 x308005_1 x308006_1 x308007_1 x308008_1 false x308010_1 x308011_1 x308012_1 t309 t310 t311 t312 t313 t314 t315 t316 t317 t318 t319 t320 t321) else (hourglasslaw21_CallBounds.j3 kj17 l2 x8_1 false a1_0 a1_1 a1_2 a1_3 a1_4 a1_5 a1_6 a1_7 a1_8 a1_9 a1_10 a1_11 a1_12 l1_13 x308000_1 x308001_1 x308002_1 x308003_1 x308004_1 x308005_1 x308006_1 x308007_1 x308008_1 false x308010_1 x308011_1 x308012_1 t309 t310 t311 t312 t313 t314 t315 t316 t317 t318 t319 t320 t321)) = some r := by rw [if_neg (show ¬ (false = true) by decide)] at H; exact H
                                    clear H
                                    have H := H1
                                    clear H1
                                    by_cases c63 : x308005_1 ≥ a1_8
                                    · rw [if_pos c63] at H
                                      have c63b0 : decide (a1_8 ≤ x308005_1) = true := decide_eq_true c63
                                      clear c63
                                      have H' := Aside0.mk H
                                      clear H
                                      have p324 : 0 ≤ (x8_1 : Int) := of_decide_eq_true (by first | (with_reducible assumption) | assumption)
                                      have q324 : x8_1 < (l2.length : Int) := of_decide_eq_true (by first | (with_reducible assumption) | assumption)
                                      obtain ⟨ad324, e324, hx324_0, hx324_1, hx324_2, hx324_3, hx324_4, hx324_5, hx324_6, hx324_7, hx324_8, hx324_9⟩ := at_T79 HR2.out x8_1 p324 q324
                                      obtain rfl : ad308 = ad324 := (by injection e324)
                                      replace hx324_0 := (HB.out.cell (World.block_lt_of_cell? w _ hx324_0)).trans hx324_0
                                      replace hx324_1 := (HB.out.cell (World.block_lt_of_cell? w _ hx324_1)).trans hx324_1
                                      replace hx324_2 := (HB.out.cell (World.block_lt_of_cell? w _ hx324_2)).trans hx324_2
                                      replace hx324_3 := (HB.out.cell (World.block_lt_of_cell? w _ hx324_3)).trans hx324_3
                                      replace hx324_4 := (HB.out.cell (World.block_lt_of_cell? w _ hx324_4)).trans hx324_4
                                      replace hx324_5 := (HB.out.cell (World.block_lt_of_cell? w _ hx324_5)).trans hx324_5
                                      replace hx324_6 := (HB.out.cell (World.block_lt_of_cell? w _ hx324_6)).trans hx324_6
                                      replace hx324_7 := (HB.out.cell (World.block_lt_of_cell? w _ hx324_7)).trans hx324_7
                                      replace hx324_8 := (HB.out.cell (World.block_lt_of_cell? w _ hx324_8)).trans hx324_8
                                      replace hx324_9 := (HB.out.cell (World.block_lt_of_cell? w _ hx324_9)).trans hx324_9
                                      replace p324 := eq_true p324
                                      replace q324 := eq_true q324
                                      have p325 : 0 ≤ (x8_1 : Int) := of_decide_eq_true (by first | (with_reducible assumption) | assumption)
                                      have q325 : x8_1 < (l2.length : Int) := of_decide_eq_true (by first | (with_reducible assumption) | assumption)
                                      obtain ⟨ad325, e325, hx325_0, hx325_1, hx325_2, hx325_3, hx325_4, hx325_5, hx325_6, hx325_7, hx325_8, hx325_9⟩ := at_T79 HR2.out x8_1 p325 q325
                                      obtain rfl : ad308 = ad325 := (by injection e325)
                                      replace hx325_0 := (HB.out.cell (World.block_lt_of_cell? w _ hx325_0)).trans hx325_0
                                      replace hx325_1 := (HB.out.cell (World.block_lt_of_cell? w _ hx325_1)).trans hx325_1
                                      replace hx325_2 := (HB.out.cell (World.block_lt_of_cell? w _ hx325_2)).trans hx325_2
                                      replace hx325_3 := (HB.out.cell (World.block_lt_of_cell? w _ hx325_3)).trans hx325_3
                                      replace hx325_4 := (HB.out.cell (World.block_lt_of_cell? w _ hx325_4)).trans hx325_4
                                      replace hx325_5 := (HB.out.cell (World.block_lt_of_cell? w _ hx325_5)).trans hx325_5
                                      replace hx325_6 := (HB.out.cell (World.block_lt_of_cell? w _ hx325_6)).trans hx325_6
                                      replace hx325_7 := (HB.out.cell (World.block_lt_of_cell? w _ hx325_7)).trans hx325_7
                                      replace hx325_8 := (HB.out.cell (World.block_lt_of_cell? w _ hx325_8)).trans hx325_8
                                      replace hx325_9 := (HB.out.cell (World.block_lt_of_cell? w _ hx325_9)).trans hx325_9
                                      replace p325 := eq_true p325
                                      replace q325 := eq_true q325
                                      have hnb64 := NB307_305.out
                                      have hnc64 := NB305_307.out
                                      have hnb65 := NB307_306.out
                                      have hnc65 := NB306_307.out
                                      have hnb66 := NB307_323.out
                                      have hnc66 := NB323_307.out
                                      obtain ⟨hcz67_0, hcz67_1, hcz67_2, hcz67_3, hcz67_4, hcz67_5, hcz67_6, hcz67_7, hcz67_8, hcz67_9, hcz67_10, hcz67_11, hcz67_12⟩ := bc13 BK307.out; obtain ⟨hfz67_0, hfz67_1, hfz67_2, hfz67_3, hfz67_4, hfz67_5, hfz67_6, hfz67_7, hfz67_8, hfz67_9, hfz67_10, hfz67_11, hfz67_12⟩ := bf13 BK307.out
                                      have hnb68 := NB306_305.out
                                      have hnc68 := NB305_306.out
                                      have hnb69 := NB306_323.out
                                      have hnc69 := NB323_306.out
                                      obtain ⟨hcz70_0, hcz70_1, hcz70_2, hcz70_3, hcz70_4, hcz70_5, hcz70_6, hcz70_7, hcz70_8, hcz70_9, hcz70_10, hcz70_11, hcz70_12, hcz70_13⟩ := bc14 BK306.out; obtain ⟨hfz70_0, hfz70_1, hfz70_2, hfz70_3, hfz70_4, hfz70_5, hfz70_6, hfz70_7, hfz70_8, hfz70_9, hfz70_10, hfz70_11, hfz70_12, hfz70_13⟩ := bf14 BK306.out
                                      have hnb71 := NB323_305.out
                                      have hnc71 := NB305_323.out
                                      obtain ⟨hcz72_0, hcz72_1, hcz72_2, hcz72_3, hcz72_4, hcz72_5, hcz72_6, hcz72_7, hcz72_8, hcz72_9, hcz72_10, hcz72_11, hcz72_12⟩ := bc13 BK323.out; obtain ⟨hfz72_0, hfz72_1, hfz72_2, hfz72_3, hfz72_4, hfz72_5, hfz72_6, hfz72_7, hfz72_8, hfz72_9, hfz72_10, hfz72_11, hfz72_12⟩ := bf13 BK323.out
                                      go_wp2
                                      go_meet
                                      case rel => exact ⟨_, ((t315 != 3)), (by first | rfl | (simp; done) | (simp [*]; done)), H', ⟨by have := HK1.out; have := HJ11.out; have := HJ17.out; first | omega | exact Nat.le_refl _⟩, ⟨by (with_reducible repeat (first | refine bN ?_ _ | refine bD ?_ | refine bA ?_ _)); exact BK305.out⟩, ⟨by (with_reducible repeat (first | refine bN ?_ _ | refine bD ?_ | refine bA ?_ _)); exact BK306.out⟩, ⟨by (with_reducible repeat (first | refine bN ?_ _ | refine bD ?_ | refine bA ?_ _)); exact BK307.out⟩, ⟨by (with_reducible repeat (first | refine bN ?_ _ | refine bD ?_ | refine bA ?_ _)); exact BK323.out⟩, ⟨by repeat (first | (with_reducible first | exact HB.out | apply pA | apply pN | apply pD | refine pS ?_ GE305.out | refine pS ?_ GE306.out | refine pS ?_ GE307.out | refine pS ?_ GE323.out) | exact HB.out)⟩⟩
                                    · rw [if_neg c63] at H
                                      have c63b0 : decide (a1_8 ≤ x308005_1) = false := decide_eq_false c63
                                      clear c63
                                      have H' := Aside0.mk H
                                      clear H
                                      have p324 : 0 ≤ (x8_1 : Int) := of_decide_eq_true (by first | (with_reducible assumption) | assumption)
                                      have q324 : x8_1 < (l2.length : Int) := of_decide_eq_true (by first | (with_reducible assumption) | assumption)
                                      obtain ⟨ad324, e324, hx324_0, hx324_1, hx324_2, hx324_3, hx324_4, hx324_5, hx324_6, hx324_7, hx324_8, hx324_9⟩ := at_T79 HR2.out x8_1 p324 q324
                                      obtain rfl : ad308 = ad324 := (by injection e324)
                                      replace hx324_0 := (HB.out.cell (World.block_lt_of_cell? w _ hx324_0)).trans hx324_0
                                      replace hx324_1 := (HB.out.cell (World.block_lt_of_cell? w _ hx324_1)).trans hx324_1
                                      replace hx324_2 := (HB.out.cell (World.block_lt_of_cell? w _ hx324_2)).trans hx324_2
                                      replace hx324_3 := (HB.out.cell (World.block_lt_of_cell? w _ hx324_3)).trans hx324_3
                                      replace hx324_4 := (HB.out.cell (World.block_lt_of_cell? w _ hx324_4)).trans hx324_4
                                      replace hx324_5 := (HB.out.cell (World.block_lt_of_cell? w _ hx324_5)).trans hx324_5
                                      replace hx324_6 := (HB.out.cell (World.block_lt_of_cell? w _ hx324_6)).trans hx324_6
                                      replace hx324_7 := (HB.out.cell (World.block_lt_of_cell? w _ hx324_7)).trans hx324_7
                                      replace hx324_8 := (HB.out.cell (World.block_lt_of_cell? w _ hx324_8)).trans hx324_8
                                      replace hx324_9 := (HB.out.cell (World.block_lt_of_cell? w _ hx324_9)).trans hx324_9
                                      replace p324 := eq_true p324
                                      replace q324 := eq_true q324
                                      have p325 : 0 ≤ (x8_1 : Int) := of_decide_eq_true (by first | (with_reducible assumption) | assumption)
                                      have q325 : x8_1 < (l2.length : Int) := of_decide_eq_true (by first | (with_reducible assumption) | assumption)
                                      obtain ⟨ad325, e325, hx325_0, hx325_1, hx325_2, hx325_3, hx325_4, hx325_5, hx325_6, hx325_7, hx325_8, hx325_9⟩ := at_T79 HR2.out x8_1 p325 q325
                                      obtain rfl : ad308 = ad325 := (by injection e325)
                                      replace hx325_0 := (HB.out.cell (World.block_lt_of_cell? w _ hx325_0)).trans hx325_0
                                      replace hx325_1 := (HB.out.cell (World.block_lt_of_cell? w _ hx325_1)).trans hx325_1
                                      replace hx325_2 := (HB.out.cell (World.block_lt_of_cell? w _ hx325_2)).trans hx325_2
                                      replace hx325_3 := (HB.out.cell (World.block_lt_of_cell? w _ hx325_3)).trans hx325_3
                                      replace hx325_4 := (HB.out.cell (World.block_lt_of_cell? w _ hx325_4)).trans hx325_4
                                      replace hx325_5 := (HB.out.cell (World.block_lt_of_cell? w _ hx325_5)).trans hx325_5
                                      replace hx325_6 := (HB.out.cell (World.block_lt_of_cell? w _ hx325_6)).trans hx325_6
                                      replace hx325_7 := (HB.out.cell (World.block_lt_of_cell? w _ hx325_7)).trans hx325_7
                                      replace hx325_8 := (HB.out.cell (World.block_lt_of_cell? w _ hx325_8)).trans hx325_8
                                      replace hx325_9 := (HB.out.cell (World.block_lt_of_cell? w _ hx325_9)).trans hx325_9
                                      replace p325 := eq_true p325
                                      replace q325 := eq_true q325
                                      have hnb73 := NB307_305.out
                                      have hnc73 := NB305_307.out
                                      have hnb74 := NB307_306.out
                                      have hnc74 := NB306_307.out
                                      have hnb75 := NB307_323.out
                                      have hnc75 := NB323_307.out
                                      obtain ⟨hcz76_0, hcz76_1, hcz76_2, hcz76_3, hcz76_4, hcz76_5, hcz76_6, hcz76_7, hcz76_8, hcz76_9, hcz76_10, hcz76_11, hcz76_12⟩ := bc13 BK307.out; obtain ⟨hfz76_0, hfz76_1, hfz76_2, hfz76_3, hfz76_4, hfz76_5, hfz76_6, hfz76_7, hfz76_8, hfz76_9, hfz76_10, hfz76_11, hfz76_12⟩ := bf13 BK307.out
                                      have hnb77 := NB306_305.out
                                      have hnc77 := NB305_306.out
                                      have hnb78 := NB306_323.out
                                      have hnc78 := NB323_306.out
                                      obtain ⟨hcz79_0, hcz79_1, hcz79_2, hcz79_3, hcz79_4, hcz79_5, hcz79_6, hcz79_7, hcz79_8, hcz79_9, hcz79_10, hcz79_11, hcz79_12, hcz79_13⟩ := bc14 BK306.out; obtain ⟨hfz79_0, hfz79_1, hfz79_2, hfz79_3, hfz79_4, hfz79_5, hfz79_6, hfz79_7, hfz79_8, hfz79_9, hfz79_10, hfz79_11, hfz79_12, hfz79_13⟩ := bf14 BK306.out
                                      go_wp2
                                      go_meet
                                      case rel => exact ⟨_, (false), (by first | rfl | (simp; done) | (simp [*]; done)), H', ⟨by have := HK1.out; have := HJ11.out; have := HJ17.out; first | omega | exact Nat.le_refl _⟩, ⟨by (with_reducible repeat (first | refine bN ?_ _ | refine bD ?_ | refine bA ?_ _)); exact BK305.out⟩, ⟨by (with_reducible repeat (first | refine bN ?_ _ | refine bD ?_ | refine bA ?_ _)); exact BK306.out⟩, ⟨by (with_reducible repeat (first | refine bN ?_ _ | refine bD ?_ | refine bA ?_ _)); exact BK307.out⟩, ⟨by (with_reducible repeat (first | refine bN ?_ _ | refine bD ?_ | refine bA ?_ _)); exact BK323.out⟩, ⟨by repeat (first | (with_reducible first | exact HB.out | apply pA | apply pN | apply pD | refine pS ?_ GE305.out | refine pS ?_ GE306.out | refine pS ?_ GE307.out | refine pS ?_ GE323.out) | exact HB.out)⟩⟩
                                · rw [if_neg c54] at H
                                  have c54b0 : (x308006_1 == 1) = false := beq_eq_false_iff_ne.mpr c54
                                  have c54b1 : (x308006_1 != 1) = true := bne_iff_ne.mpr c54
                                  have H' := Aside0.mk H
                                  clear H
                                  have p324 : 0 ≤ (x8_1 : Int) := of_decide_eq_true (by first | (with_reducible assumption) | assumption)
                                  have q324 : x8_1 < (l2.length : Int) := of_decide_eq_true (by first | (with_reducible assumption) | assumption)
                                  obtain ⟨ad324, e324, hx324_0, hx324_1, hx324_2, hx324_3, hx324_4, hx324_5, hx324_6, hx324_7, hx324_8, hx324_9⟩ := at_T79 HR2.out x8_1 p324 q324
                                  obtain rfl : ad308 = ad324 := (by injection e324)
                                  replace hx324_0 := (HB.out.cell (World.block_lt_of_cell? w _ hx324_0)).trans hx324_0
                                  replace hx324_1 := (HB.out.cell (World.block_lt_of_cell? w _ hx324_1)).trans hx324_1
                                  replace hx324_2 := (HB.out.cell (World.block_lt_of_cell? w _ hx324_2)).trans hx324_2
                                  replace hx324_3 := (HB.out.cell (World.block_lt_of_cell? w _ hx324_3)).trans hx324_3
                                  replace hx324_4 := (HB.out.cell (World.block_lt_of_cell? w _ hx324_4)).trans hx324_4
                                  replace hx324_5 := (HB.out.cell (World.block_lt_of_cell? w _ hx324_5)).trans hx324_5
                                  replace hx324_6 := (HB.out.cell (World.block_lt_of_cell? w _ hx324_6)).trans hx324_6
                                  replace hx324_7 := (HB.out.cell (World.block_lt_of_cell? w _ hx324_7)).trans hx324_7
                                  replace hx324_8 := (HB.out.cell (World.block_lt_of_cell? w _ hx324_8)).trans hx324_8
                                  replace hx324_9 := (HB.out.cell (World.block_lt_of_cell? w _ hx324_9)).trans hx324_9
                                  replace p324 := eq_true p324
                                  replace q324 := eq_true q324
                                  have p325 : 0 ≤ (x8_1 : Int) := of_decide_eq_true (by first | (with_reducible assumption) | assumption)
                                  have q325 : x8_1 < (l2.length : Int) := of_decide_eq_true (by first | (with_reducible assumption) | assumption)
                                  obtain ⟨ad325, e325, hx325_0, hx325_1, hx325_2, hx325_3, hx325_4, hx325_5, hx325_6, hx325_7, hx325_8, hx325_9⟩ := at_T79 HR2.out x8_1 p325 q325
                                  obtain rfl : ad308 = ad325 := (by injection e325)
                                  replace hx325_0 := (HB.out.cell (World.block_lt_of_cell? w _ hx325_0)).trans hx325_0
                                  replace hx325_1 := (HB.out.cell (World.block_lt_of_cell? w _ hx325_1)).trans hx325_1
                                  replace hx325_2 := (HB.out.cell (World.block_lt_of_cell? w _ hx325_2)).trans hx325_2
                                  replace hx325_3 := (HB.out.cell (World.block_lt_of_cell? w _ hx325_3)).trans hx325_3
                                  replace hx325_4 := (HB.out.cell (World.block_lt_of_cell? w _ hx325_4)).trans hx325_4
                                  replace hx325_5 := (HB.out.cell (World.block_lt_of_cell? w _ hx325_5)).trans hx325_5
                                  replace hx325_6 := (HB.out.cell (World.block_lt_of_cell? w _ hx325_6)).trans hx325_6
                                  replace hx325_7 := (HB.out.cell (World.block_lt_of_cell? w _ hx325_7)).trans hx325_7
                                  replace hx325_8 := (HB.out.cell (World.block_lt_of_cell? w _ hx325_8)).trans hx325_8
                                  replace hx325_9 := (HB.out.cell (World.block_lt_of_cell? w _ hx325_9)).trans hx325_9
                                  replace p325 := eq_true p325
                                  replace q325 := eq_true q325
                                  have hnb80 := NB307_305.out
                                  have hnc80 := NB305_307.out
                                  have hnb81 := NB307_306.out
                                  have hnc81 := NB306_307.out
                                  have hnb82 := NB307_323.out
                                  have hnc82 := NB323_307.out
                                  obtain ⟨hcz83_0, hcz83_1, hcz83_2, hcz83_3, hcz83_4, hcz83_5, hcz83_6, hcz83_7, hcz83_8, hcz83_9, hcz83_10, hcz83_11, hcz83_12⟩ := bc13 BK307.out; obtain ⟨hfz83_0, hfz83_1, hfz83_2, hfz83_3, hfz83_4, hfz83_5, hfz83_6, hfz83_7, hfz83_8, hfz83_9, hfz83_10, hfz83_11, hfz83_12⟩ := bf13 BK307.out
                                  go_wp2
                                  go_meet
                                  case rel => exact ⟨_, (false), (by first | rfl | (simp; done) | (simp [*]; done)), H', ⟨by have := HK1.out; have := HJ11.out; have := HJ17.out; first | omega | exact Nat.le_refl _⟩, ⟨by (with_reducible repeat (first | refine bN ?_ _ | refine bD ?_ | refine bA ?_ _)); exact BK305.out⟩, ⟨by (with_reducible repeat (first | refine bN ?_ _ | refine bD ?_ | refine bA ?_ _)); exact BK306.out⟩, ⟨by (with_reducible repeat (first | refine bN ?_ _ | refine bD ?_ | refine bA ?_ _)); exact BK307.out⟩, ⟨by (with_reducible repeat (first | refine bN ?_ _ | refine bD ?_ | refine bA ?_ _)); exact BK323.out⟩, ⟨by repeat (first | (with_reducible first | exact HB.out | apply pA | apply pN | apply pD | refine pS ?_ GE305.out | refine pS ?_ GE306.out | refine pS ?_ GE307.out | refine pS ?_ GE323.out) | exact HB.out)⟩⟩
                              · rw [if_neg c53] at H
                                have c53b0 : decide (((rd_T79 l2 x8_1).f0) ≤ 7) = false := decide_eq_false c53
                                clear c53
                                have H' := Aside0.mk H
                                clear H
                                have p324 : 0 ≤ (x8_1 : Int) := of_decide_eq_true (by first | (with_reducible assumption) | assumption)
                                have q324 : x8_1 < (l2.length : Int) := of_decide_eq_true (by first | (with_reducible assumption) | assumption)
                                obtain ⟨ad324, e324, hx324_0, hx324_1, hx324_2, hx324_3, hx324_4, hx324_5, hx324_6, hx324_7, hx324_8, hx324_9⟩ := at_T79 HR2.out x8_1 p324 q324
                                obtain rfl : ad308 = ad324 := (by injection e324)
                                replace hx324_0 := (HB.out.cell (World.block_lt_of_cell? w _ hx324_0)).trans hx324_0
                                replace hx324_1 := (HB.out.cell (World.block_lt_of_cell? w _ hx324_1)).trans hx324_1
                                replace hx324_2 := (HB.out.cell (World.block_lt_of_cell? w _ hx324_2)).trans hx324_2
                                replace hx324_3 := (HB.out.cell (World.block_lt_of_cell? w _ hx324_3)).trans hx324_3
                                replace hx324_4 := (HB.out.cell (World.block_lt_of_cell? w _ hx324_4)).trans hx324_4
                                replace hx324_5 := (HB.out.cell (World.block_lt_of_cell? w _ hx324_5)).trans hx324_5
                                replace hx324_6 := (HB.out.cell (World.block_lt_of_cell? w _ hx324_6)).trans hx324_6
                                replace hx324_7 := (HB.out.cell (World.block_lt_of_cell? w _ hx324_7)).trans hx324_7
                                replace hx324_8 := (HB.out.cell (World.block_lt_of_cell? w _ hx324_8)).trans hx324_8
                                replace hx324_9 := (HB.out.cell (World.block_lt_of_cell? w _ hx324_9)).trans hx324_9
                                replace p324 := eq_true p324
                                replace q324 := eq_true q324
                                have p325 : 0 ≤ (x8_1 : Int) := of_decide_eq_true (by first | (with_reducible assumption) | assumption)
                                have q325 : x8_1 < (l2.length : Int) := of_decide_eq_true (by first | (with_reducible assumption) | assumption)
                                obtain ⟨ad325, e325, hx325_0, hx325_1, hx325_2, hx325_3, hx325_4, hx325_5, hx325_6, hx325_7, hx325_8, hx325_9⟩ := at_T79 HR2.out x8_1 p325 q325
                                obtain rfl : ad308 = ad325 := (by injection e325)
                                replace hx325_0 := (HB.out.cell (World.block_lt_of_cell? w _ hx325_0)).trans hx325_0
                                replace hx325_1 := (HB.out.cell (World.block_lt_of_cell? w _ hx325_1)).trans hx325_1
                                replace hx325_2 := (HB.out.cell (World.block_lt_of_cell? w _ hx325_2)).trans hx325_2
                                replace hx325_3 := (HB.out.cell (World.block_lt_of_cell? w _ hx325_3)).trans hx325_3
                                replace hx325_4 := (HB.out.cell (World.block_lt_of_cell? w _ hx325_4)).trans hx325_4
                                replace hx325_5 := (HB.out.cell (World.block_lt_of_cell? w _ hx325_5)).trans hx325_5
                                replace hx325_6 := (HB.out.cell (World.block_lt_of_cell? w _ hx325_6)).trans hx325_6
                                replace hx325_7 := (HB.out.cell (World.block_lt_of_cell? w _ hx325_7)).trans hx325_7
                                replace hx325_8 := (HB.out.cell (World.block_lt_of_cell? w _ hx325_8)).trans hx325_8
                                replace hx325_9 := (HB.out.cell (World.block_lt_of_cell? w _ hx325_9)).trans hx325_9
                                replace p325 := eq_true p325
                                replace q325 := eq_true q325
                                go_wp2
                                go_meet
                                case rel => exact ⟨_, (false), (by first | rfl | (simp; done) | (simp [*]; done)), H', ⟨by have := HK1.out; have := HJ11.out; have := HJ17.out; first | omega | exact Nat.le_refl _⟩, ⟨by (with_reducible repeat (first | refine bN ?_ _ | refine bD ?_ | refine bA ?_ _)); exact BK305.out⟩, ⟨by (with_reducible repeat (first | refine bN ?_ _ | refine bD ?_ | refine bA ?_ _)); exact BK306.out⟩, ⟨by (with_reducible repeat (first | refine bN ?_ _ | refine bD ?_ | refine bA ?_ _)); exact BK307.out⟩, ⟨by (with_reducible repeat (first | refine bN ?_ _ | refine bD ?_ | refine bA ?_ _)); exact BK323.out⟩, ⟨by repeat (first | (with_reducible first | exact HB.out | apply pA | apply pN | apply pD | refine pS ?_ GE305.out | refine pS ?_ GE306.out | refine pS ?_ GE307.out | refine pS ?_ GE323.out) | exact HB.out)⟩⟩
                            · rw [if_neg c52] at H
                              have c52b0 : decide (5 ≤ ((rd_T79 l2 x8_1).f0)) = false := decide_eq_false c52
                              clear c52
                              have H' := Aside0.mk H
                              clear H
                              have p324 : 0 ≤ (x8_1 : Int) := of_decide_eq_true (by first | (with_reducible assumption) | assumption)
                              have q324 : x8_1 < (l2.length : Int) := of_decide_eq_true (by first | (with_reducible assumption) | assumption)
                              obtain ⟨ad324, e324, hx324_0, hx324_1, hx324_2, hx324_3, hx324_4, hx324_5, hx324_6, hx324_7, hx324_8, hx324_9⟩ := at_T79 HR2.out x8_1 p324 q324
                              obtain rfl : ad308 = ad324 := (by injection e324)
                              replace hx324_0 := (HB.out.cell (World.block_lt_of_cell? w _ hx324_0)).trans hx324_0
                              replace hx324_1 := (HB.out.cell (World.block_lt_of_cell? w _ hx324_1)).trans hx324_1
                              replace hx324_2 := (HB.out.cell (World.block_lt_of_cell? w _ hx324_2)).trans hx324_2
                              replace hx324_3 := (HB.out.cell (World.block_lt_of_cell? w _ hx324_3)).trans hx324_3
                              replace hx324_4 := (HB.out.cell (World.block_lt_of_cell? w _ hx324_4)).trans hx324_4
                              replace hx324_5 := (HB.out.cell (World.block_lt_of_cell? w _ hx324_5)).trans hx324_5
                              replace hx324_6 := (HB.out.cell (World.block_lt_of_cell? w _ hx324_6)).trans hx324_6
                              replace hx324_7 := (HB.out.cell (World.block_lt_of_cell? w _ hx324_7)).trans hx324_7
                              replace hx324_8 := (HB.out.cell (World.block_lt_of_cell? w _ hx324_8)).trans hx324_8
                              replace hx324_9 := (HB.out.cell (World.block_lt_of_cell? w _ hx324_9)).trans hx324_9
                              replace p324 := eq_true p324
                              replace q324 := eq_true q324
                              go_wp2
                              go_meet
                              case rel => exact ⟨_, (false), (by first | rfl | (simp; done) | (simp [*]; done)), H', ⟨by have := HK1.out; have := HJ11.out; have := HJ17.out; first | omega | exact Nat.le_refl _⟩, ⟨by (with_reducible repeat (first | refine bN ?_ _ | refine bD ?_ | refine bA ?_ _)); exact BK305.out⟩, ⟨by (with_reducible repeat (first | refine bN ?_ _ | refine bD ?_ | refine bA ?_ _)); exact BK306.out⟩, ⟨by (with_reducible repeat (first | refine bN ?_ _ | refine bD ?_ | refine bA ?_ _)); exact BK307.out⟩, ⟨by (with_reducible repeat (first | refine bN ?_ _ | refine bD ?_ | refine bA ?_ _)); exact BK323.out⟩, ⟨by repeat (first | (with_reducible first | exact HB.out | apply pA | apply pN | apply pD | refine pS ?_ GE305.out | refine pS ?_ GE306.out | refine pS ?_ GE307.out | refine pS ?_ GE323.out) | exact HB.out)⟩⟩
                          · rw [if_neg c51] at H
                            exact absurd H (by simp)
                        · rw [if_neg c50] at H
                          exact absurd H (by simp)
                      case rest =>
                        clear HC49
                        try clear c1
                        try clear p2
                        try clear p3
                        try clear q3
                        try clear hx3
                        try clear c4
                        try clear c5
                        try clear c6
                        try clear c7
                        try clear c8
                        try clear p30
                        try clear q30
                        try clear hx30
                        try clear p32
                        try clear q32
                        try clear hx32
                        try clear c48
                        try clear c50
                        try clear c50b0
                        try clear c51
                        try clear c51b0
                        try clear c52
                        try clear c52b0
                        try clear c53
                        try clear c53b0
                        try clear c54
                        try clear c54b0
                        try clear c54b1
                        try clear c55
                        try clear c56
                        try clear c57
                        try clear c58
                        try clear c60
                        try clear c61
                        try clear c63
                        try clear c63b0
                        try clear c64
                        try clear c65
                        try clear c66
                        try clear c68
                        try clear c69
                        try clear c71
                        try clear c73
                        try clear c74
                        try clear c75
                        try clear c77
                        try clear c78
                        try clear c80
                        try clear c81
                        try clear c82
                        try clear hcz47_3
                        try clear hcz47_4
                        try clear hcz47_5
                        try clear hcz47_6
                        try clear hcz47_7
                        try clear hcz47_8
                        try clear hcz47_9
                        try clear hcz59_0
                        try clear hcz59_1
                        try clear hcz59_10
                        try clear hcz59_11
                        try clear hcz59_12
                        try clear hcz59_2
                        try clear hcz59_3
                        try clear hcz59_4
                        try clear hcz59_5
                        try clear hcz59_6
                        try clear hcz59_7
                        try clear hcz59_8
                        try clear hcz59_9
                        try clear hcz62_0
                        try clear hcz62_1
                        try clear hcz62_10
                        try clear hcz62_11
                        try clear hcz62_12
                        try clear hcz62_2
                        try clear hcz62_3
                        try clear hcz62_4
                        try clear hcz62_5
                        try clear hcz62_6
                        try clear hcz62_7
                        try clear hcz62_8
                        try clear hcz62_9
                        try clear hcz67_0
                        try clear hcz67_1
                        try clear hcz67_10
                        try clear hcz67_11
                        try clear hcz67_12
                        try clear hcz67_2
                        try clear hcz67_3
                        try clear hcz67_4
                        try clear hcz67_5
                        try clear hcz67_6
                        try clear hcz67_7
                        try clear hcz67_8
                        try clear hcz67_9
                        try clear hcz70_0
                        try clear hcz70_1
                        try clear hcz70_10
                        try clear hcz70_11
                        try clear hcz70_12
                        try clear hcz70_13
                        try clear hcz70_2
                        try clear hcz70_3
                        try clear hcz70_4
                        try clear hcz70_5
                        try clear hcz70_6
                        try clear hcz70_7
                        try clear hcz70_8
                        try clear hcz70_9
                        try clear hcz72_0
                        try clear hcz72_1
                        try clear hcz72_10
                        try clear hcz72_11
                        try clear hcz72_12
                        try clear hcz72_2
                        try clear hcz72_3
                        try clear hcz72_4
                        try clear hcz72_5
                        try clear hcz72_6
                        try clear hcz72_7
                        try clear hcz72_8
                        try clear hcz72_9
                        try clear hcz76_0
                        try clear hcz76_1
                        try clear hcz76_10
                        try clear hcz76_11
                        try clear hcz76_12
                        try clear hcz76_2
                        try clear hcz76_3
                        try clear hcz76_4
                        try clear hcz76_5
                        try clear hcz76_6
                        try clear hcz76_7
                        try clear hcz76_8
                        try clear hcz76_9
                        try clear hcz79_0
                        try clear hcz79_1
                        try clear hcz79_10
                        try clear hcz79_11
                        try clear hcz79_12
                        try clear hcz79_13
                        try clear hcz79_2
                        try clear hcz79_3
                        try clear hcz79_4
                        try clear hcz79_5
                        try clear hcz79_6
                        try clear hcz79_7
                        try clear hcz79_8
                        try clear hcz79_9
                        try clear hcz83_0
                        try clear hcz83_1
                        try clear hcz83_10
                        try clear hcz83_11
                        try clear hcz83_12
                        try clear hcz83_2
                        try clear hcz83_3
                        try clear hcz83_4
                        try clear hcz83_5
                        try clear hcz83_6
                        try clear hcz83_7
                        try clear hcz83_8
                        try clear hcz83_9
                        try clear hfz40_0
                        try clear hfz40_1
                        try clear hfz40_10
                        try clear hfz40_11
                        try clear hfz40_12
                        try clear hfz40_2
                        try clear hfz40_3
                        try clear hfz40_4
                        try clear hfz40_5
                        try clear hfz40_6
                        try clear hfz40_7
                        try clear hfz40_8
                        try clear hfz40_9
                        try clear hfz43_0
                        try clear hfz43_1
                        try clear hfz43_10
                        try clear hfz43_11
                        try clear hfz43_12
                        try clear hfz43_2
                        try clear hfz43_3
                        try clear hfz43_4
                        try clear hfz43_5
                        try clear hfz43_6
                        try clear hfz43_7
                        try clear hfz43_8
                        try clear hfz43_9
                        try clear hfz47_0
                        try clear hfz47_1
                        try clear hfz47_10
                        try clear hfz47_11
                        try clear hfz47_12
                        try clear hfz47_2
                        try clear hfz47_3
                        try clear hfz47_4
                        try clear hfz47_5
                        try clear hfz47_6
                        try clear hfz47_7
                        try clear hfz47_8
                        try clear hfz47_9
                        try clear hfz59_0
                        try clear hfz59_1
                        try clear hfz59_10
                        try clear hfz59_11
                        try clear hfz59_12
                        try clear hfz59_2
                        try clear hfz59_3
                        try clear hfz59_4
                        try clear hfz59_5
                        try clear hfz59_6
                        try clear hfz59_7
                        try clear hfz59_8
                        try clear hfz59_9
                        try clear hfz62_0
                        try clear hfz62_1
                        try clear hfz62_10
                        try clear hfz62_11
                        try clear hfz62_12
                        try clear hfz62_2
                        try clear hfz62_3
                        try clear hfz62_4
                        try clear hfz62_5
                        try clear hfz62_6
                        try clear hfz62_7
                        try clear hfz62_8
                        try clear hfz62_9
                        try clear hfz67_0
                        try clear hfz67_1
                        try clear hfz67_10
                        try clear hfz67_11
                        try clear hfz67_12
                        try clear hfz67_2
                        try clear hfz67_3
                        try clear hfz67_4
                        try clear hfz67_5
                        try clear hfz67_6
                        try clear hfz67_7
                        try clear hfz67_8
                        try clear hfz67_9
                        try clear hfz70_0
                        try clear hfz70_1
                        try clear hfz70_10
                        try clear hfz70_11
                        try clear hfz70_12
                        try clear hfz70_13
                        try clear hfz70_2
                        try clear hfz70_3
                        try clear hfz70_4
                        try clear hfz70_5
                        try clear hfz70_6
                        try clear hfz70_7
                        try clear hfz70_8
                        try clear hfz70_9
                        try clear hfz72_0
                        try clear hfz72_1
                        try clear hfz72_10
                        try clear hfz72_11
                        try clear hfz72_12
                        try clear hfz72_2
                        try clear hfz72_3
                        try clear hfz72_4
                        try clear hfz72_5
                        try clear hfz72_6
                        try clear hfz72_7
                        try clear hfz72_8
                        try clear hfz72_9
                        try clear hfz76_0
                        try clear hfz76_1
                        try clear hfz76_10
                        try clear hfz76_11
                        try clear hfz76_12
                        try clear hfz76_2
                        try clear hfz76_3
                        try clear hfz76_4
                        try clear hfz76_5
                        try clear hfz76_6
                        try clear hfz76_7
                        try clear hfz76_8
                        try clear hfz76_9
                        try clear hfz79_0
                        try clear hfz79_1
                        try clear hfz79_10
                        try clear hfz79_11
                        try clear hfz79_12
                        try clear hfz79_13
                        try clear hfz79_2
                        try clear hfz79_3
                        try clear hfz79_4
                        try clear hfz79_5
                        try clear hfz79_6
                        try clear hfz79_7
                        try clear hfz79_8
                        try clear hfz79_9
                        try clear hfz83_0
                        try clear hfz83_1
                        try clear hfz83_10
                        try clear hfz83_11
                        try clear hfz83_12
                        try clear hfz83_2
                        try clear hfz83_3
                        try clear hfz83_4
                        try clear hfz83_5
                        try clear hfz83_6
                        try clear hfz83_7
                        try clear hfz83_8
                        try clear hfz83_9
                        try clear hx308_0
                        try clear hx308_1
                        try clear hx308_2
                        try clear hx308_3
                        try clear hx308_4
                        try clear hx308_5
                        try clear hx308_6
                        try clear hx308_7
                        try clear hx308_8
                        try clear hx308_9
                        try clear hx324_0
                        try clear hx324_1
                        try clear hx324_2
                        try clear hx324_3
                        try clear hx324_4
                        try clear hx324_5
                        try clear hx324_6
                        try clear hx324_7
                        try clear hx324_8
                        try clear hx324_9
                        try clear hx325_0
                        try clear hx325_1
                        try clear hx325_2
                        try clear hx325_3
                        try clear hx325_4
                        try clear hx325_5
                        try clear hx325_6
                        try clear hx325_7
                        try clear hx325_8
                        try clear hx325_9
                        try clear p308
                        try clear p324
                        try clear p325
                        try clear q308
                        try clear q324
                        try clear q325
                        obtain ⟨kq, x75_48, rfl, HA, HJ48, BK305, BK306, BK307, BK323, HB⟩ := hcut
                        cases kq with
                        | zero => exact absurd HA.out (by simp [hourglasslaw21_CallBounds.j3])
                        | succ kj48 =>
                          have H := HA.out
                          clear HA
                          simp only [hourglasslaw21_CallBounds.j3] at H
                          by_cases c84 : x75_48 = true
                          · subst c84
                            have H1 : (some false) = some r := by rw [if_pos rfl] at H; exact H
                            clear H
                            have H := H1
                            clear H1
                            exact absurd (Option.some.inj H) (by rw [HRT.out]; decide)
                          · replace c84 := Bool.eq_false_iff.mpr c84
                            subst c84
                            have H1 : (if t314 = t321 then (if t314 < x308005_1 then (some false) else (if t314 > (wrap64 (x308005_1 + 1)) then (some false) else (if t314 > 5 then (some false) else (if t315 < 0 then (some false) else (if t315 > 3 then (some false) else (if x308009_1 = true then (if t318 = true then (hourglasslaw21_CallBounds.l0 kj48 l2 (wrap64 (x8_1 + 1)) a1_0 a1_1 a1_2 a1_3 a1_4 a1_5 a1_6 a1_7 a1_8 a1_9 a1_10 a1_11 a1_12 l1_13 t309 t310 t311 t312 t313 t314 t315 t316 t317 t318 t319 t320 t321) else (some false)) else (hourglasslaw21_CallBounds.l0 kj48 l2 (wrap64 (x8_1 + 1)) a1_0 a1_1 a1_2 a1_3 a1_4 a1_5 a1_6 a1_7 a1_8 a1_9 a1_10 a1_11 a1_12 l1_13 t309 t310 t311 t312 t313 t314 t315 t316 t317 t318 t319 t320 t321))))))) else (some false)) = some r := by rw [if_neg (show ¬ (false = true) by decide)] at H; exact H
                            clear H
                            have H := H1
                            clear H1
                            by_cases c85 : t314 = t321
                            · rw [if_pos c85] at H
                              have c85b0 : (t314 == t321) = true := beq_iff_eq.mpr c85
                              have c85b1 : (t314 != t321) = false := bne_eq_false_iff_eq.mpr c85
                              clear c85
                              by_cases c86 : t314 < x308005_1
                              · rw [if_pos c86] at H
                                have c86b0 : decide (t314 < x308005_1) = true := decide_eq_true c86
                                clear c86
                                exact absurd (Option.some.inj H) (by rw [HRT.out]; decide)
                              · rw [if_neg c86] at H
                                have c86b0 : decide (t314 < x308005_1) = false := decide_eq_false c86
                                clear c86
                                by_cases c94 : t314 > (wrap64 (x308005_1 + 1))
                                · rw [if_pos c94] at H
                                  have c94b0 : decide ((wrap64 (x308005_1 + 1)) < t314) = true := decide_eq_true c94
                                  clear c94
                                  exact absurd (Option.some.inj H) (by rw [HRT.out]; decide)
                                · rw [if_neg c94] at H
                                  have c94b0 : decide ((wrap64 (x308005_1 + 1)) < t314) = false := decide_eq_false c94
                                  clear c94
                                  by_cases c102 : t314 > 5
                                  · rw [if_pos c102] at H
                                    have c102b0 : decide (5 < t314) = true := decide_eq_true c102
                                    clear c102
                                    exact absurd (Option.some.inj H) (by rw [HRT.out]; decide)
                                  · rw [if_neg c102] at H
                                    have c102b0 : decide (5 < t314) = false := decide_eq_false c102
                                    clear c102
                                    by_cases c110 : t315 < 0
                                    · rw [if_pos c110] at H
                                      have c110b0 : decide (t315 < 0) = true := decide_eq_true c110
                                      clear c110
                                      exact absurd (Option.some.inj H) (by rw [HRT.out]; decide)
                                    · rw [if_neg c110] at H
                                      have c110b0 : decide (t315 < 0) = false := decide_eq_false c110
                                      clear c110
                                      by_cases c118 : t315 > 3
                                      · rw [if_pos c118] at H
                                        have c118b0 : decide (3 < t315) = true := decide_eq_true c118
                                        clear c118
                                        exact absurd (Option.some.inj H) (by rw [HRT.out]; decide)
                                      · rw [if_neg c118] at H
                                        have c118b0 : decide (3 < t315) = false := decide_eq_false c118
                                        clear c118
                                        by_cases c126 : x308009_1 = true
                                        · subst c126
                                          have H1 : (if t318 = true then (hourglasslaw21_CallBounds.l0 kj48 l2 (wrap64 (x8_1 + 1)) a1_0 a1_1 a1_2 a1_3 a1_4 a1_5 a1_6 a1_7 a1_8 a1_9 a1_10 a1_11 a1_12 l1_13 t309 t310 t311 t312 t313 t314 t315 t316 t317 t318 t319 t320 t321) else (some false)) = some r := by rw [if_pos rfl] at H; exact H
                                          clear H
                                          have H := H1
                                          clear H1
                                          by_cases c127 : t318 = true
                                          · subst c127
                                            have H1 : (hourglasslaw21_CallBounds.l0 kj48 l2 (wrap64 (x8_1 + 1)) a1_0 a1_1 a1_2 a1_3 a1_4 a1_5 a1_6 a1_7 a1_8 a1_9 a1_10 a1_11 a1_12 l1_13 t309 t310 t311 t312 t313 t314 t315 t316 t317 true t319 t320 t321) = some r := by rw [if_pos rfl] at H; exact H
                                            clear H
                                            have H := H1
                                            clear H1
                                            have H' := Aside0.mk H
                                            clear H
                                            have hnb128 := NB323_305.out
                                            have hnc128 := NB305_323.out
                                            have hnb129 := NB323_306.out
                                            have hnc129 := NB306_323.out
                                            have hnb130 := NB323_307.out
                                            have hnc130 := NB307_323.out
                                            obtain ⟨hcz131_0, hcz131_1, hcz131_2, hcz131_3, hcz131_4, hcz131_5, hcz131_6, hcz131_7, hcz131_8, hcz131_9, hcz131_10, hcz131_11, hcz131_12⟩ := bc13 BK323.out; obtain ⟨hfz131_0, hfz131_1, hfz131_2, hfz131_3, hfz131_4, hfz131_5, hfz131_6, hfz131_7, hfz131_8, hfz131_9, hfz131_10, hfz131_11, hfz131_12⟩ := bf13 BK323.out
                                            have hnb132 := NB307_305.out
                                            have hnc132 := NB305_307.out
                                            have hnb133 := NB307_306.out
                                            have hnc133 := NB306_307.out
                                            obtain ⟨hcz134_0, hcz134_1, hcz134_2, hcz134_3, hcz134_4, hcz134_5, hcz134_6, hcz134_7, hcz134_8, hcz134_9, hcz134_10, hcz134_11, hcz134_12⟩ := bc13 BK307.out; obtain ⟨hfz134_0, hfz134_1, hfz134_2, hfz134_3, hfz134_4, hfz134_5, hfz134_6, hfz134_7, hfz134_8, hfz134_9, hfz134_10, hfz134_11, hfz134_12⟩ := bf13 BK307.out
                                            go_wp2
                                            go_roundg kj48
                                            case measure => have := HK1.out; have := HJ11.out; have := HJ17.out; have := HJ48.out; omega
                                            case rel => exact ⟨(wrap64 (x8_1 + 1)), (t309), (t310), (t311), (t312), (t313), (t314), (t315), (t316), (t317), (true), (t319), (t320), (t321), (by first | rfl | (simp; done) | (simp [*]; done)), H', ⟨by have := HK1.out; have := HJ11.out; have := HJ17.out; have := HJ48.out; omega⟩, ⟨by (iterate 13 ((with_reducible repeat (first | refine bN ?_ _ | refine bD ?_ | refine bA ?_ _)); refine blk_far ?_ NB305_307.out _)); (with_reducible repeat (first | refine bN ?_ _ | refine bD ?_ | refine bA ?_ _)); exact BK305.out⟩, ⟨by (iterate 13 ((with_reducible repeat (first | refine bN ?_ _ | refine bD ?_ | refine bA ?_ _)); refine blk_far ?_ NB306_307.out _)); (with_reducible repeat (first | refine bN ?_ _ | refine bD ?_ | refine bA ?_ _)); exact BK306.out⟩, ⟨by (with_reducible repeat (first | refine bN ?_ _ | refine bD ?_ | refine bA ?_ _)); apply bq; (with_reducible repeat (first | refine bN ?_ _ | refine bD ?_ | refine bA ?_ _)); apply bq; (with_reducible repeat (first | refine bN ?_ _ | refine bD ?_ | refine bA ?_ _)); apply bq; (with_reducible repeat (first | refine bN ?_ _ | refine bD ?_ | refine bA ?_ _)); apply bq; (with_reducible repeat (first | refine bN ?_ _ | refine bD ?_ | refine bA ?_ _)); apply bq; (with_reducible repeat (first | refine bN ?_ _ | refine bD ?_ | refine bA ?_ _)); apply bq; (with_reducible repeat (first | refine bN ?_ _ | refine bD ?_ | refine bA ?_ _)); apply bq; (with_reducible repeat (first | refine bN ?_ _ | refine bD ?_ | refine bA ?_ _)); apply bq; (with_reducible repeat (first | refine bN ?_ _ | refine bD ?_ | refine bA ?_ _)); apply bq; (with_reducible repeat (first | refine bN ?_ _ | refine bD ?_ | refine bA ?_ _)); apply bq; (with_reducible repeat (first | refine bN ?_ _ | refine bD ?_ | refine bA ?_ _)); apply bq; (with_reducible repeat (first | refine bN ?_ _ | refine bD ?_ | refine bA ?_ _)); apply bq; (with_reducible repeat (first | refine bN ?_ _ | refine bD ?_ | refine bA ?_ _)); apply bq; (with_reducible repeat (first | refine bN ?_ _ | refine bD ?_ | refine bA ?_ _)); exact BK307.out; all_goals rfl⟩, ⟨by repeat (first | (with_reducible first | exact HB.out | apply pA | apply pN | apply pD | refine pS ?_ GE305.out | refine pS ?_ GE306.out | refine pS ?_ GE307.out | refine pS ?_ GE323.out) | exact HB.out)⟩⟩
                                          · replace c127 := Bool.eq_false_iff.mpr c127
                                            subst c127
                                            have H1 : (some false) = some r := by rw [if_neg (show ¬ (false = true) by decide)] at H; exact H
                                            clear H
                                            have H := H1
                                            clear H1
                                            exact absurd (Option.some.inj H) (by rw [HRT.out]; decide)
                                        · replace c126 := Bool.eq_false_iff.mpr c126
                                          subst c126
                                          have H1 : (hourglasslaw21_CallBounds.l0 kj48 l2 (wrap64 (x8_1 + 1)) a1_0 a1_1 a1_2 a1_3 a1_4 a1_5 a1_6 a1_7 a1_8 a1_9 a1_10 a1_11 a1_12 l1_13 t309 t310 t311 t312 t313 t314 t315 t316 t317 t318 t319 t320 t321) = some r := by rw [if_neg (show ¬ (false = true) by decide)] at H; exact H
                                          clear H
                                          have H := H1
                                          clear H1
                                          have H' := Aside0.mk H
                                          clear H
                                          have hnb142 := NB323_305.out
                                          have hnc142 := NB305_323.out
                                          have hnb143 := NB323_306.out
                                          have hnc143 := NB306_323.out
                                          have hnb144 := NB323_307.out
                                          have hnc144 := NB307_323.out
                                          obtain ⟨hcz145_0, hcz145_1, hcz145_2, hcz145_3, hcz145_4, hcz145_5, hcz145_6, hcz145_7, hcz145_8, hcz145_9, hcz145_10, hcz145_11, hcz145_12⟩ := bc13 BK323.out; obtain ⟨hfz145_0, hfz145_1, hfz145_2, hfz145_3, hfz145_4, hfz145_5, hfz145_6, hfz145_7, hfz145_8, hfz145_9, hfz145_10, hfz145_11, hfz145_12⟩ := bf13 BK323.out
                                          have hnb146 := NB307_305.out
                                          have hnc146 := NB305_307.out
                                          have hnb147 := NB307_306.out
                                          have hnc147 := NB306_307.out
                                          obtain ⟨hcz148_0, hcz148_1, hcz148_2, hcz148_3, hcz148_4, hcz148_5, hcz148_6, hcz148_7, hcz148_8, hcz148_9, hcz148_10, hcz148_11, hcz148_12⟩ := bc13 BK307.out; obtain ⟨hfz148_0, hfz148_1, hfz148_2, hfz148_3, hfz148_4, hfz148_5, hfz148_6, hfz148_7, hfz148_8, hfz148_9, hfz148_10, hfz148_11, hfz148_12⟩ := bf13 BK307.out
                                          go_wp2
                                          go_roundg kj48
                                          case measure => have := HK1.out; have := HJ11.out; have := HJ17.out; have := HJ48.out; omega
                                          case rel => exact ⟨(wrap64 (x8_1 + 1)), (t309), (t310), (t311), (t312), (t313), (t314), (t315), (t316), (t317), (t318), (t319), (t320), (t321), (by first | rfl | (simp; done) | (simp [*]; done)), H', ⟨by have := HK1.out; have := HJ11.out; have := HJ17.out; have := HJ48.out; omega⟩, ⟨by (iterate 13 ((with_reducible repeat (first | refine bN ?_ _ | refine bD ?_ | refine bA ?_ _)); refine blk_far ?_ NB305_307.out _)); (with_reducible repeat (first | refine bN ?_ _ | refine bD ?_ | refine bA ?_ _)); exact BK305.out⟩, ⟨by (iterate 13 ((with_reducible repeat (first | refine bN ?_ _ | refine bD ?_ | refine bA ?_ _)); refine blk_far ?_ NB306_307.out _)); (with_reducible repeat (first | refine bN ?_ _ | refine bD ?_ | refine bA ?_ _)); exact BK306.out⟩, ⟨by (with_reducible repeat (first | refine bN ?_ _ | refine bD ?_ | refine bA ?_ _)); apply bq; (with_reducible repeat (first | refine bN ?_ _ | refine bD ?_ | refine bA ?_ _)); apply bq; (with_reducible repeat (first | refine bN ?_ _ | refine bD ?_ | refine bA ?_ _)); apply bq; (with_reducible repeat (first | refine bN ?_ _ | refine bD ?_ | refine bA ?_ _)); apply bq; (with_reducible repeat (first | refine bN ?_ _ | refine bD ?_ | refine bA ?_ _)); apply bq; (with_reducible repeat (first | refine bN ?_ _ | refine bD ?_ | refine bA ?_ _)); apply bq; (with_reducible repeat (first | refine bN ?_ _ | refine bD ?_ | refine bA ?_ _)); apply bq; (with_reducible repeat (first | refine bN ?_ _ | refine bD ?_ | refine bA ?_ _)); apply bq; (with_reducible repeat (first | refine bN ?_ _ | refine bD ?_ | refine bA ?_ _)); apply bq; (with_reducible repeat (first | refine bN ?_ _ | refine bD ?_ | refine bA ?_ _)); apply bq; (with_reducible repeat (first | refine bN ?_ _ | refine bD ?_ | refine bA ?_ _)); apply bq; (with_reducible repeat (first | refine bN ?_ _ | refine bD ?_ | refine bA ?_ _)); apply bq; (with_reducible repeat (first | refine bN ?_ _ | refine bD ?_ | refine bA ?_ _)); apply bq; (with_reducible repeat (first | refine bN ?_ _ | refine bD ?_ | refine bA ?_ _)); exact BK307.out; all_goals rfl⟩, ⟨by repeat (first | (with_reducible first | exact HB.out | apply pA | apply pN | apply pD | refine pS ?_ GE305.out | refine pS ?_ GE306.out | refine pS ?_ GE307.out | refine pS ?_ GE323.out) | exact HB.out)⟩⟩
                            · rw [if_neg c85] at H
                              have c85b0 : (t314 == t321) = false := beq_eq_false_iff_ne.mpr c85
                              have c85b1 : (t314 != t321) = true := bne_iff_ne.mpr c85
                              exact absurd (Option.some.inj H) (by rw [HRT.out]; decide)
              · rw [if_neg c16] at H
                exact absurd H (by simp)
            · rw [if_neg c15] at H
              exact absurd H (by simp)
          · replace c14 := Bool.eq_false_iff.mpr c14
            subst c14
            have H1 : (if a1_8 < 1 then ((hourglasslaw21_awake.f kj11).bind fun t326 => (some t326)) else (if x308005_1 ≤ 1 then ((hourglasslaw21_awake.f kj11).bind fun t327 => (some t327)) else (if x308005_1 ≤ a1_8 then ((hourglasslaw21_awake.f kj11).bind fun t328 => (some t328)) else (some false)))) = some r := by rw [if_neg (show ¬ (false = true) by decide)] at H; exact H
            clear H
            have H := H1
            clear H1
            by_cases c153 : a1_8 < 1
            · rw [if_pos c153] at H
              have c153b0 : decide (a1_8 < 1) = true := decide_eq_true c153
              clear c153
              replace H := Option.bind_eq_some_iff.mp H
              obtain ⟨t326, A1540, H⟩ := H
              replace H : (some t326) = some r := H
              have A154 := Aside0.mk A1540
              clear A1540
              first
                | exact absurd (Option.some.inj H) (by rw [HRT.out]; decide)
                | (obtain rfl := Option.some.inj H
                   have hnb155 := NB306_305.out
                   have hnc155 := NB305_306.out
                   have hnb156 := NB306_307.out
                   have hnc156 := NB307_306.out
                   obtain ⟨hcz157_0, hcz157_1, hcz157_2, hcz157_3, hcz157_4, hcz157_5, hcz157_6, hcz157_7, hcz157_8, hcz157_9, hcz157_10, hcz157_11, hcz157_12, hcz157_13⟩ := bc14 BK306.out; obtain ⟨hfz157_0, hfz157_1, hfz157_2, hfz157_3, hfz157_4, hfz157_5, hfz157_6, hfz157_7, hfz157_8, hfz157_9, hfz157_10, hfz157_11, hfz157_12, hfz157_13⟩ := bf14 BK306.out
                   go_wp2_with (first | ((with_reducible refine gate_callee (f := 39) rfl ?_); refine goesL_ (some 124) rfl rfl Try.func39 (by kernel_rfl) rfl #[] rfl (by (try simp only [List.map_toArray, List.map_cons, List.map_nil]); first | done | rfl | (simp only [List.length_drop, List.length_take]; rfl)) ?_; (with_reducible refine (hourglasslaw21_awake.calls kj11  t326 _ A154.out HRT.out).mono ?_); rintro e w158 ⟨rfl, hb⟩; refine ⟨_, rfl, ?_⟩; have n0_ := Aside0.mk (blk_below (g := gb305) (by (with_reducible repeat (first | refine bN ?_ _ | refine bD ?_ | refine bA ?_ _)); exact BK305.out) hb); have n1_ := Aside0.mk (blk_below (g := gb306) (by (with_reducible repeat (first | refine bN ?_ _ | refine bD ?_ | refine bA ?_ _)); exact BK306.out) hb); have n2_ := Aside0.mk (blk_below (g := gb307) (by (with_reducible repeat (first | refine bN ?_ _ | refine bD ?_ | refine bA ?_ _)); exact BK307.out) hb); have n3_ := Aside0.mk (below_step (by repeat (first | (with_reducible first | exact HB.out | apply pA | apply pN | apply pD | refine pS ?_ GE305.out | refine pS ?_ GE306.out | refine pS ?_ GE307.out) | exact HB.out)) hb); clear BK305; clear BK306; clear BK307; clear HB; have BK305 := n0_; have BK306 := n1_; have BK307 := n2_; have HB := n3_; clear n0_ n1_ n2_ n3_; (try clear hb); (try clear hb2); (try clear hk); (try clear hi)))
                   go_ret
                   exact ⟨by first | rfl | (simp [errW_none, errW_some] <;> rfl) | (simp [*, errW_none, errW_some] <;> rfl), by repeat (first | (with_reducible first | exact HB.out | apply pA | apply pN | apply pD | refine pS ?_ GE305.out | refine pS ?_ GE306.out | refine pS ?_ GE307.out) | exact HB.out)⟩)
            · rw [if_neg c153] at H
              have c153b0 : decide (a1_8 < 1) = false := decide_eq_false c153
              clear c153
              by_cases c159 : x308005_1 ≤ 1
              · rw [if_pos c159] at H
                have c159b0 : decide (x308005_1 ≤ 1) = true := decide_eq_true c159
                clear c159
                replace H := Option.bind_eq_some_iff.mp H
                obtain ⟨t327, A1600, H⟩ := H
                replace H : (some t327) = some r := H
                have A160 := Aside0.mk A1600
                clear A1600
                first
                  | exact absurd (Option.some.inj H) (by rw [HRT.out]; decide)
                  | (obtain rfl := Option.some.inj H
                     have hnb161 := NB306_305.out
                     have hnc161 := NB305_306.out
                     have hnb162 := NB306_307.out
                     have hnc162 := NB307_306.out
                     obtain ⟨hcz163_0, hcz163_1, hcz163_2, hcz163_3, hcz163_4, hcz163_5, hcz163_6, hcz163_7, hcz163_8, hcz163_9, hcz163_10, hcz163_11, hcz163_12, hcz163_13⟩ := bc14 BK306.out; obtain ⟨hfz163_0, hfz163_1, hfz163_2, hfz163_3, hfz163_4, hfz163_5, hfz163_6, hfz163_7, hfz163_8, hfz163_9, hfz163_10, hfz163_11, hfz163_12, hfz163_13⟩ := bf14 BK306.out
                     have hnb164 := NB307_305.out
                     have hnc164 := NB305_307.out
                     obtain ⟨hcz165_0, hcz165_1, hcz165_2, hcz165_3, hcz165_4, hcz165_5, hcz165_6, hcz165_7, hcz165_8, hcz165_9, hcz165_10, hcz165_11, hcz165_12⟩ := bc13 BK307.out; obtain ⟨hfz165_0, hfz165_1, hfz165_2, hfz165_3, hfz165_4, hfz165_5, hfz165_6, hfz165_7, hfz165_8, hfz165_9, hfz165_10, hfz165_11, hfz165_12⟩ := bf13 BK307.out
                     go_wp2_with (first | (go_at_call 39; (with_reducible refine (hourglasslaw21_awake.calls kj11  t327 _ A160.out HRT.out).mono ?_); rintro e w166 ⟨rfl, hb⟩; have n0_ := Aside0.mk (blk_below (g := gb305) (by (with_reducible repeat (first | refine bN ?_ _ | refine bD ?_ | refine bA ?_ _)); exact BK305.out) hb); have n1_ := Aside0.mk (blk_below (g := gb306) (by (with_reducible repeat (first | refine bN ?_ _ | refine bD ?_ | refine bA ?_ _)); exact BK306.out) hb); have n2_ := Aside0.mk (blk_below (g := gb307) (by (with_reducible repeat (first | refine bN ?_ _ | refine bD ?_ | refine bA ?_ _)); exact BK307.out) hb); have n3_ := Aside0.mk (below_step (by repeat (first | (with_reducible first | exact HB.out | apply pA | apply pN | apply pD | refine pS ?_ GE305.out | refine pS ?_ GE306.out | refine pS ?_ GE307.out) | exact HB.out)) hb); clear BK305; clear BK306; clear BK307; clear HB; have BK305 := n0_; have BK306 := n1_; have BK307 := n2_; have HB := n3_; clear n0_ n1_ n2_ n3_; (try clear hb); (try clear hb2); (try clear hk); (try clear hi)))
                     go_ret
                     exact ⟨by first | rfl | (simp [errW_none, errW_some] <;> rfl) | (simp [*, errW_none, errW_some] <;> rfl), by repeat (first | (with_reducible first | exact HB.out | apply pA | apply pN | apply pD | refine pS ?_ GE305.out | refine pS ?_ GE306.out | refine pS ?_ GE307.out) | exact HB.out)⟩)
              · rw [if_neg c159] at H
                have c159b0 : decide (x308005_1 ≤ 1) = false := decide_eq_false c159
                clear c159
                by_cases c167 : x308005_1 ≤ a1_8
                · rw [if_pos c167] at H
                  have c167b0 : decide (x308005_1 ≤ a1_8) = true := decide_eq_true c167
                  clear c167
                  replace H := Option.bind_eq_some_iff.mp H
                  obtain ⟨t328, A1680, H⟩ := H
                  replace H : (some t328) = some r := H
                  have A168 := Aside0.mk A1680
                  clear A1680
                  first
                    | exact absurd (Option.some.inj H) (by rw [HRT.out]; decide)
                    | (obtain rfl := Option.some.inj H
                       have hnb169 := NB306_305.out
                       have hnc169 := NB305_306.out
                       have hnb170 := NB306_307.out
                       have hnc170 := NB307_306.out
                       obtain ⟨hcz171_0, hcz171_1, hcz171_2, hcz171_3, hcz171_4, hcz171_5, hcz171_6, hcz171_7, hcz171_8, hcz171_9, hcz171_10, hcz171_11, hcz171_12, hcz171_13⟩ := bc14 BK306.out; obtain ⟨hfz171_0, hfz171_1, hfz171_2, hfz171_3, hfz171_4, hfz171_5, hfz171_6, hfz171_7, hfz171_8, hfz171_9, hfz171_10, hfz171_11, hfz171_12, hfz171_13⟩ := bf14 BK306.out
                       have hnb172 := NB307_305.out
                       have hnc172 := NB305_307.out
                       obtain ⟨hcz173_0, hcz173_1, hcz173_2, hcz173_3, hcz173_4, hcz173_5, hcz173_6, hcz173_7, hcz173_8, hcz173_9, hcz173_10, hcz173_11, hcz173_12⟩ := bc13 BK307.out; obtain ⟨hfz173_0, hfz173_1, hfz173_2, hfz173_3, hfz173_4, hfz173_5, hfz173_6, hfz173_7, hfz173_8, hfz173_9, hfz173_10, hfz173_11, hfz173_12⟩ := bf13 BK307.out
                       go_wp2_with (first | (go_at_call 39; (with_reducible refine (hourglasslaw21_awake.calls kj11  t328 _ A168.out HRT.out).mono ?_); rintro e w174 ⟨rfl, hb⟩; have n0_ := Aside0.mk (blk_below (g := gb305) (by (with_reducible repeat (first | refine bN ?_ _ | refine bD ?_ | refine bA ?_ _)); exact BK305.out) hb); have n1_ := Aside0.mk (blk_below (g := gb306) (by (with_reducible repeat (first | refine bN ?_ _ | refine bD ?_ | refine bA ?_ _)); exact BK306.out) hb); have n2_ := Aside0.mk (blk_below (g := gb307) (by (with_reducible repeat (first | refine bN ?_ _ | refine bD ?_ | refine bA ?_ _)); exact BK307.out) hb); have n3_ := Aside0.mk (below_step (by repeat (first | (with_reducible first | exact HB.out | apply pA | apply pN | apply pD | refine pS ?_ GE305.out | refine pS ?_ GE306.out | refine pS ?_ GE307.out) | exact HB.out)) hb); clear BK305; clear BK306; clear BK307; clear HB; have BK305 := n0_; have BK306 := n1_; have BK307 := n2_; have HB := n3_; clear n0_ n1_ n2_ n3_; (try clear hb); (try clear hb2); (try clear hk); (try clear hi)))
                       go_ret
                       exact ⟨by first | rfl | (simp [errW_none, errW_some] <;> rfl) | (simp [*, errW_none, errW_some] <;> rfl), by repeat (first | (with_reducible first | exact HB.out | apply pA | apply pN | apply pD | refine pS ?_ GE305.out | refine pS ?_ GE306.out | refine pS ?_ GE307.out) | exact HB.out)⟩)
                · rw [if_neg c167] at H
                  have c167b0 : decide (x308005_1 ≤ a1_8) = false := decide_eq_false c167
                  clear c167
                  exact absurd (Option.some.inj H) (by rw [HRT.out]; decide)
end Go.Proofs.Yteioecdfimphaaa.FCallBounds
