/- The functions that CallWaits reaches, as Lean functions, and what the Go code comes to: the same answers. No condition but that they answer. -/
import Derived.Test.YteioecdfimphaaaFCallWaitsx0
import Derived.Test.YteioecdfimphaaaSh
import Derived.Test.YteioecdfimphaaaFCallWaitsx1
import Derived.Test.YteioecdfimphaaaFCallWaitsx3
namespace Go.Proofs.Yteioecdfimphaaa.FCallWaits
open Go.RowKit Go.Proofs.Yteioecdfimphaaa.Sh Go.Proofs.YteioecdfimphaaaW.PrintWords Go.Proofs.YteioecdfimphaaaW.PrintLast Go.Proofs.YteioecdfimphaaaW.PrintMore
attribute [local go_sem] max2_int min2_int max_two min_two max_three min_three max_four min_four   -- for this text's walks alone
set_option linter.unusedVariables false
set_option linter.unusedSimpArgs false

/-! ### hourglasslaw21_CallWaits: function 9 -/
mutual
def hourglasslaw21_CallWaits.j0 : Nat → Int → Int → Int → Bool → Int → Int → Int → Int → Int → Int → Int → Int → Int → Int → Int → Int → Int → List (List (S46)) → Int → Int → Bool → Int → Int → Int → Int → Int → Int → Int → Int → Int → Int → Int → Int → Int → Int → Bool → Int → Int → Int → Option (Bool)
  | 0, _, _, _, _, _, _, _, _, _, _, _, _, _, _, _, _, _, _, _, _, _, _, _, _, _, _, _, _, _, _, _, _, _, _, _, _, _, _, _ => none
  | k + 1, x2, x3, x4, x32, x238000, x238001, x238002, x238003, x238004, x238005, x238006, x238007, x238008, x238009, x238010, x238011, x238012, x238013, x239000, x239001, x239002, x239003, x239004, x239005, x239006, x239007, x253000, x253001, x253002, x253003, x253004, x253005, x253006, x253007, x253008, x253009, x253010, x253011, x253012 => if x32 = true then (some false) else ((hourglasslaw21_mine.f x239000 x239001 x239002 x239003 x239004 x239005 x239006 x239007).bind fun bt256 => ((call_Bad.f k x253000 x253001 x253002 x253003 x253004 x253005 x253006 x253007 x253008 x253009 x253010 x253011 x253012 x238000 x238001 x238002 x238003 x238004 x238005 x238006 x238007 x238008 x238009 x238010 x238011 x238012 x238013 bt256.1 bt256.2.1 bt256.2.2.1 bt256.2.2.2.1 bt256.2.2.2.2.1 bt256.2.2.2.2.2.1 bt256.2.2.2.2.2.2.1 bt256.2.2.2.2.2.2.2).bind fun bt264 => (if bt264.2.2.2.2.2.2.2.2.2.2.2.2.2 = 0 then ((hourglassref01_Clamp.f x2).bind fun t281 => ((hourglassref01_Clamp.f x239005).bind fun t282 => (if t281 < t282 then (hourglasslaw21_CallWaits.j1 k x2 x3 x4 true bt264.1 bt264.2.1 bt264.2.2.1 bt264.2.2.2.1 bt264.2.2.2.2.1 bt264.2.2.2.2.2.1 bt264.2.2.2.2.2.2.1 bt264.2.2.2.2.2.2.2.1 bt264.2.2.2.2.2.2.2.2.1 bt264.2.2.2.2.2.2.2.2.2.1 bt264.2.2.2.2.2.2.2.2.2.2.1 bt264.2.2.2.2.2.2.2.2.2.2.2.1 bt264.2.2.2.2.2.2.2.2.2.2.2.2.1) else (if x239003 ≥ 0 then ((hourglassref01_Clamp.f x2).bind fun t283 => ((hourglassref01_Add.f x239005 x239003).bind fun t284 => (hourglasslaw21_CallWaits.j1 k x2 x3 x4 (decide (t283 < t284)) bt264.1 bt264.2.1 bt264.2.2.1 bt264.2.2.2.1 bt264.2.2.2.2.1 bt264.2.2.2.2.2.1 bt264.2.2.2.2.2.2.1 bt264.2.2.2.2.2.2.2.1 bt264.2.2.2.2.2.2.2.2.1 bt264.2.2.2.2.2.2.2.2.2.1 bt264.2.2.2.2.2.2.2.2.2.2.1 bt264.2.2.2.2.2.2.2.2.2.2.2.1 bt264.2.2.2.2.2.2.2.2.2.2.2.2.1))) else (hourglasslaw21_CallWaits.j1 k x2 x3 x4 false bt264.1 bt264.2.1 bt264.2.2.1 bt264.2.2.2.1 bt264.2.2.2.2.1 bt264.2.2.2.2.2.1 bt264.2.2.2.2.2.2.1 bt264.2.2.2.2.2.2.2.1 bt264.2.2.2.2.2.2.2.2.1 bt264.2.2.2.2.2.2.2.2.2.1 bt264.2.2.2.2.2.2.2.2.2.2.1 bt264.2.2.2.2.2.2.2.2.2.2.2.1 bt264.2.2.2.2.2.2.2.2.2.2.2.2.1))))) else (if bt264.2.2.2.2.2.2.1 = 3 then ((call_Rested.f bt264.1 bt264.2.1 bt264.2.2.1 bt264.2.2.2.1 bt264.2.2.2.2.1 bt264.2.2.2.2.2.1 bt264.2.2.2.2.2.2.1 bt264.2.2.2.2.2.2.2.1 bt264.2.2.2.2.2.2.2.2.1 bt264.2.2.2.2.2.2.2.2.2.1 bt264.2.2.2.2.2.2.2.2.2.2.1 bt264.2.2.2.2.2.2.2.2.2.2.2.1 bt264.2.2.2.2.2.2.2.2.2.2.2.2.1 x2 x4).bind fun t279 => (if t279 = true then (some false) else ((hourglasslaw21_awake.f k).bind fun t280 => (some t280)))) else (some false)))))
def hourglasslaw21_CallWaits.j1 : Nat → Int → Int → Int → Bool → Int → Int → Int → Int → Int → Int → Int → Int → Int → Bool → Int → Int → Int → Option (Bool)
  | 0, _, _, _, _, _, _, _, _, _, _, _, _, _, _, _, _, _ => none
  | k + 1, x2, x3, x4, x14, x279000, x279001, x279002, x279003, x279004, x279005, x279006, x279007, x279008, x279009, x279010, x279011, x279012 => if x279006 = 2 then (if x14 = true then ((call_Rested.f x279000 x279001 x279002 x279003 x279004 x279005 x279006 x279007 x279008 x279009 x279010 x279011 x279012 x2 x4).bind fun t285 => (if t285 = true then (some false) else ((call_Lost.f x279000 x279001 x279002 x279003 x279004 x279005 x279006 x279007 x279008 x279009 x279010 x279011 x279012 x2 x3 x4).bind fun t286 => (if t286 = true then (some false) else ((hourglasslaw21_awake.f k).bind fun t287 => (some t287)))))) else ((call_Lost.f x279000 x279001 x279002 x279003 x279004 x279005 x279006 x279007 x279008 x279009 x279010 x279011 x279012 x2 x3 x4).bind fun t288 => (if t288 = true then (some false) else ((hourglasslaw21_awake.f k).bind fun t289 => (some t289))))) else (some false)
end
def hourglasslaw21_CallWaits.f (k : Nat) (a0_0 : Int) (a0_1 : Int) (a0_2 : Int) (a0_3 : Int) (a0_4 : Int) (a0_5 : Int) (a0_6 : Int) (a0_7 : Int) (a0_8 : Int) (a0_9 : Int) (a0_10 : Int) (a0_11 : Int) (a0_12 : Int) (l0_13 : List (List (S46))) (a1_0 : Int) (a1_1 : Int) (a1_2 : Bool) (a1_3 : Int) (a1_4 : Int) (a1_5 : Int) (a1_6 : Int) (a1_7 : Int) (a2 : Int) (a3 : Int) (a4 : Int) : Option (Bool) := (call_Begin.f k 0 0 0 0 0 0 0 0 0 false 0 0 0 a1_5).bind fun bt239 => ((call_Lost.f bt239.1 bt239.2.1 bt239.2.2.1 bt239.2.2.2.1 bt239.2.2.2.2.1 bt239.2.2.2.2.2.1 bt239.2.2.2.2.2.2.1 bt239.2.2.2.2.2.2.2.1 bt239.2.2.2.2.2.2.2.2.1 bt239.2.2.2.2.2.2.2.2.2.1 bt239.2.2.2.2.2.2.2.2.2.2.1 bt239.2.2.2.2.2.2.2.2.2.2.2.1 bt239.2.2.2.2.2.2.2.2.2.2.2.2 a2 a3 a4).bind fun t253 => (if t253 = true then ((hourglassref01_Clamp.f a2).bind fun t254 => ((hourglassref01_Add.f a1_5 a3).bind fun t255 => (hourglasslaw21_CallWaits.j0 k a2 a3 a4 (decide (t254 < t255)) a0_0 a0_1 a0_2 a0_3 a0_4 a0_5 a0_6 a0_7 a0_8 a0_9 a0_10 a0_11 a0_12 l0_13 a1_0 a1_1 a1_2 a1_3 a1_4 a1_5 a1_6 a1_7 bt239.1 bt239.2.1 bt239.2.2.1 bt239.2.2.2.1 bt239.2.2.2.2.1 bt239.2.2.2.2.2.1 bt239.2.2.2.2.2.2.1 bt239.2.2.2.2.2.2.2.1 bt239.2.2.2.2.2.2.2.2.1 bt239.2.2.2.2.2.2.2.2.2.1 bt239.2.2.2.2.2.2.2.2.2.2.1 bt239.2.2.2.2.2.2.2.2.2.2.2.1 bt239.2.2.2.2.2.2.2.2.2.2.2.2))) else (hourglasslaw21_CallWaits.j0 k a2 a3 a4 false a0_0 a0_1 a0_2 a0_3 a0_4 a0_5 a0_6 a0_7 a0_8 a0_9 a0_10 a0_11 a0_12 l0_13 a1_0 a1_1 a1_2 a1_3 a1_4 a1_5 a1_6 a1_7 bt239.1 bt239.2.1 bt239.2.2.1 bt239.2.2.2.1 bt239.2.2.2.2.1 bt239.2.2.2.2.2.1 bt239.2.2.2.2.2.2.1 bt239.2.2.2.2.2.2.2.1 bt239.2.2.2.2.2.2.2.2.1 bt239.2.2.2.2.2.2.2.2.2.1 bt239.2.2.2.2.2.2.2.2.2.2.1 bt239.2.2.2.2.2.2.2.2.2.2.2.1 bt239.2.2.2.2.2.2.2.2.2.2.2.2)))
theorem hourglasslaw21_CallWaits.mono_l : ∀ k, (∀ y0 y1 y2 y3 y4 y5 y6 y7 y8 y9 y10 y11 y12 y13 y14 y15 y16 y17 y18 y19 y20 y21 y22 y23 y24 y25 y26 y27 y28 y29 y30 y31 y32 y33 y34 y35 y36 y37 y38, LeO (hourglasslaw21_CallWaits.j0 k y0 y1 y2 y3 y4 y5 y6 y7 y8 y9 y10 y11 y12 y13 y14 y15 y16 y17 y18 y19 y20 y21 y22 y23 y24 y25 y26 y27 y28 y29 y30 y31 y32 y33 y34 y35 y36 y37 y38) (hourglasslaw21_CallWaits.j0 (k + 1) y0 y1 y2 y3 y4 y5 y6 y7 y8 y9 y10 y11 y12 y13 y14 y15 y16 y17 y18 y19 y20 y21 y22 y23 y24 y25 y26 y27 y28 y29 y30 y31 y32 y33 y34 y35 y36 y37 y38)) ∧ (∀ y0 y1 y2 y3 y4 y5 y6 y7 y8 y9 y10 y11 y12 y13 y14 y15 y16, LeO (hourglasslaw21_CallWaits.j1 k y0 y1 y2 y3 y4 y5 y6 y7 y8 y9 y10 y11 y12 y13 y14 y15 y16) (hourglasslaw21_CallWaits.j1 (k + 1) y0 y1 y2 y3 y4 y5 y6 y7 y8 y9 y10 y11 y12 y13 y14 y15 y16))
  | 0 => ⟨fun _ _ _ _ _ _ _ _ _ _ _ _ _ _ _ _ _ _ _ _ _ _ _ _ _ _ _ _ _ _ _ _ _ _ _ _ _ _ _ r h => by simp [hourglasslaw21_CallWaits.j0] at h, fun _ _ _ _ _ _ _ _ _ _ _ _ _ _ _ _ _ r h => by simp [hourglasslaw21_CallWaits.j1] at h⟩
  | k + 1 => by
    obtain ⟨ih0, ih1⟩ := hourglasslaw21_CallWaits.mono_l k
    refine ⟨?_, ?_⟩
    · intro y0 y1 y2 y3 y4 y5 y6 y7 y8 y9 y10 y11 y12 y13 y14 y15 y16 y17 y18 y19 y20 y21 y22 y23 y24 y25 y26 y27 y28 y29 y30 y31 y32 y33 y34 y35 y36 y37 y38
      unfold hourglasslaw21_CallWaits.j0
      repeat' first
      | (with_reducible exact ih0 _ _ _ _ _ _ _ _ _ _ _ _ _ _ _ _ _ _ _ _ _ _ _ _ _ _ _ _ _ _ _ _ _ _ _ _ _ _ _)
      | (with_reducible exact ih1 _ _ _ _ _ _ _ _ _ _ _ _ _ _ _ _ _)
      | (with_reducible exact call_Bad.mono _ _ _ _ _ _ _ _ _ _ _ _ _ _ _ _ _ _ _ _ _ _ _ _ _ _ _ _ _ _ _ _ _ _ _ _)
      | (with_reducible exact call_Begin.mono _ _ _ _ _ _ _ _ _ _ _ _ _ _ _)
      | (with_reducible exact hourglasslaw21_awake.mono _)
      | (with_reducible exact LeO.refl _)
      | (with_reducible exact LeO.none _)
      | (with_reducible refine LeO.ite ?_ ?_)
      | (with_reducible refine LeO.bind ?_ (fun _ => ?_))
      | exact ih0 _ _ _ _ _ _ _ _ _ _ _ _ _ _ _ _ _ _ _ _ _ _ _ _ _ _ _ _ _ _ _ _ _ _ _ _ _ _ _
      | exact ih1 _ _ _ _ _ _ _ _ _ _ _ _ _ _ _ _ _
      | exact call_Bad.mono _ _ _ _ _ _ _ _ _ _ _ _ _ _ _ _ _ _ _ _ _ _ _ _ _ _ _ _ _ _ _ _ _ _ _ _
      | exact call_Begin.mono _ _ _ _ _ _ _ _ _ _ _ _ _ _ _
      | exact hourglasslaw21_awake.mono _
      | exact LeO.none _
      | refine LeO.ite ?_ ?_
      | refine LeO.bind ?_ (fun _ => ?_)
    · intro y0 y1 y2 y3 y4 y5 y6 y7 y8 y9 y10 y11 y12 y13 y14 y15 y16
      unfold hourglasslaw21_CallWaits.j1
      repeat' first
      | (with_reducible exact ih0 _ _ _ _ _ _ _ _ _ _ _ _ _ _ _ _ _ _ _ _ _ _ _ _ _ _ _ _ _ _ _ _ _ _ _ _ _ _ _)
      | (with_reducible exact ih1 _ _ _ _ _ _ _ _ _ _ _ _ _ _ _ _ _)
      | (with_reducible exact call_Bad.mono _ _ _ _ _ _ _ _ _ _ _ _ _ _ _ _ _ _ _ _ _ _ _ _ _ _ _ _ _ _ _ _ _ _ _ _)
      | (with_reducible exact call_Begin.mono _ _ _ _ _ _ _ _ _ _ _ _ _ _ _)
      | (with_reducible exact hourglasslaw21_awake.mono _)
      | (with_reducible exact LeO.refl _)
      | (with_reducible exact LeO.none _)
      | (with_reducible refine LeO.ite ?_ ?_)
      | (with_reducible refine LeO.bind ?_ (fun _ => ?_))
      | exact ih0 _ _ _ _ _ _ _ _ _ _ _ _ _ _ _ _ _ _ _ _ _ _ _ _ _ _ _ _ _ _ _ _ _ _ _ _ _ _ _
      | exact ih1 _ _ _ _ _ _ _ _ _ _ _ _ _ _ _ _ _
      | exact call_Bad.mono _ _ _ _ _ _ _ _ _ _ _ _ _ _ _ _ _ _ _ _ _ _ _ _ _ _ _ _ _ _ _ _ _ _ _ _
      | exact call_Begin.mono _ _ _ _ _ _ _ _ _ _ _ _ _ _ _
      | exact hourglasslaw21_awake.mono _
      | exact LeO.none _
      | refine LeO.ite ?_ ?_
      | refine LeO.bind ?_ (fun _ => ?_)
theorem hourglasslaw21_CallWaits.mono : ∀ a0 a1 a2 a3 a4 a5 a6 a7 a8 a9 a10 a11 a12 a13 a14 a15 a16 a17 a18 a19 a20 a21 a22 a23 a24 k, LeO (hourglasslaw21_CallWaits.f k a0 a1 a2 a3 a4 a5 a6 a7 a8 a9 a10 a11 a12 a13 a14 a15 a16 a17 a18 a19 a20 a21 a22 a23 a24) (hourglasslaw21_CallWaits.f (k + 1) a0 a1 a2 a3 a4 a5 a6 a7 a8 a9 a10 a11 a12 a13 a14 a15 a16 a17 a18 a19 a20 a21 a22 a23 a24) := by
  intro a0 a1 a2 a3 a4 a5 a6 a7 a8 a9 a10 a11 a12 a13 a14 a15 a16 a17 a18 a19 a20 a21 a22 a23 a24 k
  obtain ⟨ih0, ih1⟩ := hourglasslaw21_CallWaits.mono_l k
  unfold hourglasslaw21_CallWaits.f
  repeat' first
      | (with_reducible exact ih0 _ _ _ _ _ _ _ _ _ _ _ _ _ _ _ _ _ _ _ _ _ _ _ _ _ _ _ _ _ _ _ _ _ _ _ _ _ _ _)
      | (with_reducible exact ih1 _ _ _ _ _ _ _ _ _ _ _ _ _ _ _ _ _)
      | (with_reducible exact call_Bad.mono _ _ _ _ _ _ _ _ _ _ _ _ _ _ _ _ _ _ _ _ _ _ _ _ _ _ _ _ _ _ _ _ _ _ _ _)
      | (with_reducible exact call_Begin.mono _ _ _ _ _ _ _ _ _ _ _ _ _ _ _)
      | (with_reducible exact hourglasslaw21_awake.mono _)
      | (with_reducible exact LeO.refl _)
      | (with_reducible exact LeO.none _)
      | (with_reducible refine LeO.ite ?_ ?_)
      | (with_reducible refine LeO.bind ?_ (fun _ => ?_))
      | exact ih0 _ _ _ _ _ _ _ _ _ _ _ _ _ _ _ _ _ _ _ _ _ _ _ _ _ _ _ _ _ _ _ _ _ _ _ _ _ _ _
      | exact ih1 _ _ _ _ _ _ _ _ _ _ _ _ _ _ _ _ _
      | exact call_Bad.mono _ _ _ _ _ _ _ _ _ _ _ _ _ _ _ _ _ _ _ _ _ _ _ _ _ _ _ _ _ _ _ _ _ _ _ _
      | exact call_Begin.mono _ _ _ _ _ _ _ _ _ _ _ _ _ _ _
      | exact hourglasslaw21_awake.mono _
      | exact LeO.none _
      | refine LeO.ite ?_ ?_
      | refine LeO.bind ?_ (fun _ => ?_)
def hourglasslaw21_CallWaits.T2 : Bool × List (List Nat × List Nat) := (true, [([], []), ([], []), ([], []), ([], []), ([0, 1, 2, 3], [0, 1, 2, 3]), ([4, 4], [4]), ([5], [5]), ([6, 5, 5], [5, 6]), ([5], [5]), ([8, 5], [5, 8]), ([5], [5]), ([9, 10, 7, 5], [5, 9, 10]), ([7, 11, 5], [5, 7, 11]), ([5, 12], [5, 12])])
def hourglasslaw21_CallWaits.B2 : List Nat := [0, 0, 0, 0, 15, 31, 63, 127, 63, 319, 63, 2047, 4095, 8191]
theorem hourglasslaw21_CallWaits.tab2 : rtab .any (opsOf Try.f9 2) = hourglasslaw21_CallWaits.T2 := by kernel_rfl
theorem hourglasslaw21_CallWaits.bits2 : waitsOk hourglasslaw21_CallWaits.T2.2 hourglasslaw21_CallWaits.B2 = true := by kernel_rfl
def hourglasslaw21_CallWaits.T4 : Bool × List (List Nat × List Nat) := (true, [([], []), ([], []), ([], []), ([2], [2]), ([0, 1, 3, 3], [0, 1, 3]), ([4], [4]), ([5], [5]), ([5], [5]), ([], []), ([8, 6, 4, 0, 1, 2, 3, 4, 5, 6, 8], [6, 8]), ([7, 9, 0, 1, 2, 3, 4, 5, 6, 7, 8, 9], [7])])
def hourglasslaw21_CallWaits.B4 : List Nat := [0, 0, 0, 4, 15, 31, 63, 63, 0, 383, 1023]
theorem hourglasslaw21_CallWaits.tab4 : rtab .any (opsOf Try.f9 4) = hourglasslaw21_CallWaits.T4 := by kernel_rfl
theorem hourglasslaw21_CallWaits.bits4 : waitsOk hourglasslaw21_CallWaits.T4.2 hourglasslaw21_CallWaits.B4 = true := by kernel_rfl
def hourglasslaw21_CallWaits.T7 : Bool × List (List Nat × List Nat) := (true, [([], []), ([0], [0]), ([], []), ([2], [2]), ([3, 1], [3]), ([1, 4], [1, 4]), ([5, 4], [5]), ([6], [6]), ([7, 6], [6, 7]), ([8, 6], [6, 8]), ([9, 6, 6], [6, 9]), ([10], [10]), ([11, 10, 10], [10, 11]), ([10], [10]), ([13, 10], [10, 13]), ([10], [10]), ([15, 10], [10, 15]), ([14, 16, 12, 10], [10, 14, 16]), ([12, 17, 10], [10, 12, 17]), ([10, 18, 6], [6, 10, 18]), ([6, 19], [6, 19]), ([20, 17, 0, 1, 2, 3, 4, 5, 6, 7, 8, 9, 10, 11, 12, 13, 14, 15, 16, 17, 18, 19, 20], [20])])
def hourglasslaw21_CallWaits.B7 : List Nat := [0, 1, 0, 4, 15, 31, 63, 127, 255, 511, 1023, 2047, 4095, 2047, 10239, 2047, 34815, 131071, 262143, 524287, 1048575, 2097151]
theorem hourglasslaw21_CallWaits.tab7 : rtab .any (opsOf Try.f9 7) = hourglasslaw21_CallWaits.T7 := by kernel_rfl
theorem hourglasslaw21_CallWaits.bits7 : waitsOk hourglasslaw21_CallWaits.T7.2 hourglasslaw21_CallWaits.B7 = true := by kernel_rfl
theorem hourglasslaw21_CallWaits.j0_no : ∀ k y0 y1 y2 y4 y5 y6 y7 y8 y9 y10 y11 y12 y13 y14 y15 y16 y17 y18 y19 y20 y21 y22 y23 y24 y25 y26 y27 y28 y29 y30 y31 y32 y33 y34 y35 y36 y37 y38, hourglasslaw21_CallWaits.j0 k y0 y1 y2 true y4 y5 y6 y7 y8 y9 y10 y11 y12 y13 y14 y15 y16 y17 y18 y19 y20 y21 y22 y23 y24 y25 y26 y27 y28 y29 y30 y31 y32 y33 y34 y35 y36 y37 y38 ≠ some true := by
  intro k y0 y1 y2 y4 y5 y6 y7 y8 y9 y10 y11 y12 y13 y14 y15 y16 y17 y18 y19 y20 y21 y22 y23 y24 y25 y26 y27 y28 y29 y30 y31 y32 y33 y34 y35 y36 y37 y38; cases k <;> simp [hourglasslaw21_CallWaits.j0]
set_option maxHeartbeats 40000000 in
set_option maxRecDepth 100000 in
theorem hourglasslaw21_CallWaits.calls (k : Nat) (a0_0 : Int) (a0_1 : Int) (a0_2 : Int) (a0_3 : Int) (a0_4 : Int) (a0_5 : Int) (a0_6 : Int) (a0_7 : Int) (a0_8 : Int) (a0_9 : Int) (a0_10 : Int) (a0_11 : Int) (a0_12 : Int) (A0_13 : Option Addr) (c0_13 : Nat) (l0_13 : List (List (S46))) (a1_0 : Int) (a1_1 : Int) (a1_2 : Bool) (a1_3 : Int) (a1_4 : Int) (a1_5 : Int) (a1_6 : Int) (a1_7 : Int) (a2 : Int) (a3 : Int) (a4 : Int) (r : Bool) (w : World) (hr0_13 : Kd.C (Kd.slice 46 k46) w A0_13 l0_13.length l0_13) (hc0_13 : l0_13.length ≤ c0_13) (h : hourglasslaw21_CallWaits.f k a0_0 a0_1 a0_2 a0_3 a0_4 a0_5 a0_6 a0_7 a0_8 a0_9 a0_10 a0_11 a0_12 l0_13 a1_0 a1_1 a1_2 a1_3 a1_4 a1_5 a1_6 a1_7 a2 a3 a4 = some r) (hrT : r = true) :
    Calls Try.prog 9 #[.agg #[.int .i64 a0_0, .int .i64 a0_1, .int .i64 a0_2, .int .i64 a0_3, .int .i64 a0_4, .int .i64 a0_5, .int .i64 a0_6, .int .i64 a0_7, .int .i64 a0_8, .int .i64 a0_9, .int .i64 a0_10, .int .i64 a0_11, .int .i64 a0_12, .slice A0_13 l0_13.length c0_13], .agg #[.int .i64 a1_0, .int .i64 a1_1, .bool a1_2, .int .i64 a1_3, .int .i64 a1_4, .int .i64 a1_5, .int .i64 a1_6, .int .i64 a1_7], .int .i64 a2, .int .i64 a3, .int .i64 a4] w fun e w' => e = .returned (.bool r) ∧ Below w.heap.size w w' := by
  have HRT := Aside0.mk hrT
  clear hrT
  have hu72 := Try.underlying72
  have hu77 := Try.underlying77
  have hu58 := Try.underlying58
  have HR0_13 := Aside0.mk hr0_13
  have HC0_13 := Aside0.mk hc0_13
  clear hr0_13 hc0_13
  have HB := Aside0.mk (Below.refl w.heap.size w)
  have H : ((call_Begin.f k 0 0 0 0 0 0 0 0 0 false 0 0 0 a1_5).bind fun bt239 => ((call_Lost.f bt239.1 bt239.2.1 bt239.2.2.1 bt239.2.2.2.1 bt239.2.2.2.2.1 bt239.2.2.2.2.2.1 bt239.2.2.2.2.2.2.1 bt239.2.2.2.2.2.2.2.1 bt239.2.2.2.2.2.2.2.2.1 bt239.2.2.2.2.2.2.2.2.2.1 bt239.2.2.2.2.2.2.2.2.2.2.1 bt239.2.2.2.2.2.2.2.2.2.2.2.1 bt239.2.2.2.2.2.2.2.2.2.2.2.2 a2 a3 a4).bind fun t253 => (if t253 = true then ((hourglassref01_Clamp.f a2).bind fun t254 => ((hourglassref01_Add.f a1_5 a3).bind fun t255 => (hourglasslaw21_CallWaits.j0 k a2 a3 a4 (decide (t254 < t255)) a0_0 a0_1 a0_2 a0_3 a0_4 a0_5 a0_6 a0_7 a0_8 a0_9 a0_10 a0_11 a0_12 l0_13 a1_0 a1_1 a1_2 a1_3 a1_4 a1_5 a1_6 a1_7 bt239.1 bt239.2.1 bt239.2.2.1 bt239.2.2.2.1 bt239.2.2.2.2.1 bt239.2.2.2.2.2.1 bt239.2.2.2.2.2.2.1 bt239.2.2.2.2.2.2.2.1 bt239.2.2.2.2.2.2.2.2.1 bt239.2.2.2.2.2.2.2.2.2.1 bt239.2.2.2.2.2.2.2.2.2.2.1 bt239.2.2.2.2.2.2.2.2.2.2.2.1 bt239.2.2.2.2.2.2.2.2.2.2.2.2))) else (hourglasslaw21_CallWaits.j0 k a2 a3 a4 false a0_0 a0_1 a0_2 a0_3 a0_4 a0_5 a0_6 a0_7 a0_8 a0_9 a0_10 a0_11 a0_12 l0_13 a1_0 a1_1 a1_2 a1_3 a1_4 a1_5 a1_6 a1_7 bt239.1 bt239.2.1 bt239.2.2.1 bt239.2.2.2.1 bt239.2.2.2.2.1 bt239.2.2.2.2.2.1 bt239.2.2.2.2.2.2.1 bt239.2.2.2.2.2.2.2.1 bt239.2.2.2.2.2.2.2.2.1 bt239.2.2.2.2.2.2.2.2.2.1 bt239.2.2.2.2.2.2.2.2.2.2.1 bt239.2.2.2.2.2.2.2.2.2.2.2.1 bt239.2.2.2.2.2.2.2.2.2.2.2.2)))) = some r := h
  clear h
  replace H := Option.bind_eq_some_iff.mp H
  obtain ⟨⟨t239, t240, t241, t242, t243, t244, t245, t246, t247, t248, t249, t250, t251⟩, A60, H⟩ := H
  replace H : ((call_Lost.f t239 t240 t241 t242 t243 t244 t245 t246 t247 t248 t249 t250 t251 a2 a3 a4).bind fun t253 => (if t253 = true then ((hourglassref01_Clamp.f a2).bind fun t254 => ((hourglassref01_Add.f a1_5 a3).bind fun t255 => (hourglasslaw21_CallWaits.j0 k a2 a3 a4 (decide (t254 < t255)) a0_0 a0_1 a0_2 a0_3 a0_4 a0_5 a0_6 a0_7 a0_8 a0_9 a0_10 a0_11 a0_12 l0_13 a1_0 a1_1 a1_2 a1_3 a1_4 a1_5 a1_6 a1_7 t239 t240 t241 t242 t243 t244 t245 t246 t247 t248 t249 t250 t251))) else (hourglasslaw21_CallWaits.j0 k a2 a3 a4 false a0_0 a0_1 a0_2 a0_3 a0_4 a0_5 a0_6 a0_7 a0_8 a0_9 a0_10 a0_11 a0_12 l0_13 a1_0 a1_1 a1_2 a1_3 a1_4 a1_5 a1_6 a1_7 t239 t240 t241 t242 t243 t244 t245 t246 t247 t248 t249 t250 t251))) = some r := H
  have A6 := Aside0.mk A60
  clear A60
  have HC7 := Aside0.mk H
  clear H
  go_enter Try.func9, Try.ntmps9
  go_upto_region 2 with (first | ((with_reducible refine gate_dst (N := 5) rfl ?_); refine box_event ?hg (N := 5) ?hd (cs := #[.int .i64 a0_0, .int .i64 a0_1, .int .i64 a0_2, .int .i64 a0_3, .int .i64 a0_4, .int .i64 a0_5, .int .i64 a0_6, .int .i64 a0_7, .int .i64 a0_8, .int .i64 a0_9, .int .i64 a0_10, .int .i64 a0_11, .int .i64 a0_12, .slice A0_13 l0_13.length c0_13]) (t := 72) ?hr ?_; (case hd => rfl); (case hg => rfl); (case hr => first | (go_simp; done) | (go_simp; rfl)); intro gb237 hg w8 hbox hb; have n0_ := Aside0.mk (below_step (by repeat (first | (with_reducible first | exact HB.out | apply pA | apply pN | apply pD) | exact HB.out)) hb); have n1_ := Aside0.mk (hbox); have n2_ := Aside0.mk ((by rw [hg]; exact (below_size (by repeat (first | (with_reducible first | exact HB.out | apply pA | apply pN | apply pD) | exact HB.out))) : w.heap.size ≤ gb237)); have n3_ := Aside0.mk ((by rw [hg]; exact (below_size (by repeat (first | (with_reducible first | exact HB.out | apply pA | apply pN | apply pD) | exact HB.out))) : w.heap.size ≤ gb237)); clear HB; have HB := n0_; have BK237 := n1_; have GW237 := n2_; have GE237 := n3_; clear n0_ n1_ n2_ n3_; clear hb hbox hg) | ((with_reducible refine gate_dst (N := 6) rfl ?_); refine box_event ?hg (N := 6) ?hd (cs := #[.int .i64 a1_0, .int .i64 a1_1, .bool a1_2, .int .i64 a1_3, .int .i64 a1_4, .int .i64 a1_5, .int .i64 a1_6, .int .i64 a1_7]) (t := 77) ?hr ?_; (case hd => rfl); (case hg => rfl); (case hr => first | (go_simp; done) | (go_simp; rfl)); intro gb238 hg w9 hbox hb; have n0_ := Aside0.mk (blk_below (g := gb237) (by (with_reducible repeat (first | refine bN ?_ _ | refine bD ?_ | refine bA ?_ _)); exact BK237.out) hb); have n1_ := Aside0.mk (below_step (by repeat (first | (with_reducible first | exact HB.out | apply pA | apply pN | apply pD | refine pS ?_ GE237.out) | exact HB.out)) hb); have n2_ := Aside0.mk (hbox); have n3_ := Aside0.mk ((by rw [hg]; exact (below_size (by repeat (first | (with_reducible first | exact HB.out | apply pA | apply pN | apply pD | refine pS ?_ GE237.out) | exact HB.out))) : w.heap.size ≤ gb238)); have n4_ := Aside0.mk ((by rw [hg]; exact (below_size (by repeat (first | (with_reducible first | exact HB.out | apply pA | apply pN | apply pD | refine pS ?_ GE237.out) | exact HB.out))) : w.heap.size ≤ gb238)); have n5_ := Aside0.mk ((by rw [hg]; exact Nat.ne_of_lt (blk_lt (g := gb237) (by (with_reducible repeat (first | refine bN ?_ _ | refine bD ?_ | refine bA ?_ _)); exact BK237.out)) : gb237 ≠ gb238)); have n6_ := Aside0.mk n5_.out.symm; clear BK237; clear HB; have BK237 := n0_; have HB := n1_; have BK238 := n2_; have GW238 := n3_; have GE238 := n4_; have NB237_238 := n5_; have NB238_237 := n6_; clear n0_ n1_ n2_ n3_ n4_ n5_ n6_; clear hb hbox hg; have hnb10 := NB238_237.out; have hnc10 := NB237_238.out; obtain ⟨hcz11_0, hcz11_1, hcz11_2, hcz11_3, hcz11_4, hcz11_5, hcz11_6, hcz11_7⟩ := bc8 BK238.out; obtain ⟨hfz11_0, hfz11_1, hfz11_2, hfz11_3, hfz11_4, hfz11_5, hfz11_6, hfz11_7⟩ := bf8 BK238.out) | ((with_reducible refine gate_callee (f := 40) rfl ?_); refine goesL_ (some 18) rfl rfl Try.func40 (by kernel_rfl) rfl #[.agg #[.int .i64 0, .int .i64 0, .int .i64 0, .int .i64 0, .int .i64 0, .int .i64 0, .int .i64 0, .int .i64 0, .int .i64 0, .bool false, .int .i64 0, .int .i64 0, .int .i64 0], .int .i64 a1_5] rfl (by (try simp only [List.map_toArray, List.map_cons, List.map_nil]); first | done | rfl | (simp only [List.length_drop, List.length_take]; rfl)) ?_; (with_reducible refine (call_Begin.calls k 0 0 0 0 0 0 0 0 0 false 0 0 0 a1_5 t239 t240 t241 t242 t243 t244 t245 t246 t247 t248 t249 t250 t251 _ A6.out).mono ?_); rintro e w12 ⟨rfl, hb⟩; refine ⟨_, rfl, ?_⟩; have n0_ := Aside0.mk (blk_below (g := gb237) (by (with_reducible repeat (first | refine bN ?_ _ | refine bD ?_ | refine bA ?_ _)); exact BK237.out) hb); have n1_ := Aside0.mk (blk_below (g := gb238) (by (with_reducible repeat (first | refine bN ?_ _ | refine bD ?_ | refine bA ?_ _)); exact BK238.out) hb); have n2_ := Aside0.mk (below_step (by repeat (first | (with_reducible first | exact HB.out | apply pA | apply pN | apply pD | refine pS ?_ GE237.out | refine pS ?_ GE238.out) | exact HB.out)) hb); clear BK237; clear BK238; clear HB; have BK237 := n0_; have BK238 := n1_; have HB := n2_; clear n0_ n1_ n2_; (try clear hb); (try clear hb2); (try clear hk); (try clear hi)) | ((with_reducible refine gate_dst (N := 11) rfl ?_); refine box_event ?hg (N := 11) ?hd (cs := #[.int .i64 0, .int .i64 0, .int .i64 0, .int .i64 0, .int .i64 0, .int .i64 0, .int .i64 0, .int .i64 0, .int .i64 0, .bool false, .int .i64 0, .int .i64 0, .int .i64 0]) (t := 58) ?hr ?_; (case hd => rfl); (case hg => rfl); (case hr => first | (go_simp; done) | (go_simp; rfl)); intro gb252 hg w13 hbox hb; have n0_ := Aside0.mk (blk_below (g := gb237) (by (with_reducible repeat (first | refine bN ?_ _ | refine bD ?_ | refine bA ?_ _)); exact BK237.out) hb); have n1_ := Aside0.mk (blk_below (g := gb238) (by (with_reducible repeat (first | refine bN ?_ _ | refine bD ?_ | refine bA ?_ _)); exact BK238.out) hb); have n2_ := Aside0.mk (below_step (by repeat (first | (with_reducible first | exact HB.out | apply pA | apply pN | apply pD | refine pS ?_ GE237.out | refine pS ?_ GE238.out) | exact HB.out)) hb); have n3_ := Aside0.mk (hbox); have n4_ := Aside0.mk ((by rw [hg]; exact (below_size (by repeat (first | (with_reducible first | exact HB.out | apply pA | apply pN | apply pD | refine pS ?_ GE237.out | refine pS ?_ GE238.out) | exact HB.out))) : w.heap.size ≤ gb252)); have n5_ := Aside0.mk ((by rw [hg]; exact (below_size (by repeat (first | (with_reducible first | exact HB.out | apply pA | apply pN | apply pD | refine pS ?_ GE237.out | refine pS ?_ GE238.out) | exact HB.out))) : w.heap.size ≤ gb252)); have n6_ := Aside0.mk ((by rw [hg]; exact Nat.ne_of_lt (blk_lt (g := gb237) (by (with_reducible repeat (first | refine bN ?_ _ | refine bD ?_ | refine bA ?_ _)); exact BK237.out)) : gb237 ≠ gb252)); have n7_ := Aside0.mk n6_.out.symm; have n8_ := Aside0.mk ((by rw [hg]; exact Nat.ne_of_lt (blk_lt (g := gb238) (by (with_reducible repeat (first | refine bN ?_ _ | refine bD ?_ | refine bA ?_ _)); exact BK238.out)) : gb238 ≠ gb252)); have n9_ := Aside0.mk n8_.out.symm; clear BK237; clear BK238; clear HB; have BK237 := n0_; have BK238 := n1_; have HB := n2_; have BK252 := n3_; have GW252 := n4_; have GE252 := n5_; have NB237_252 := n6_; have NB252_237 := n7_; have NB238_252 := n8_; have NB252_238 := n9_; clear n0_ n1_ n2_ n3_ n4_ n5_ n6_ n7_ n8_ n9_; clear hb hbox hg; have hnb14 := NB252_237.out; have hnc14 := NB237_252.out; have hnb15 := NB252_238.out; have hnc15 := NB238_252.out; obtain ⟨hcz16_0, hcz16_1, hcz16_2, hcz16_3, hcz16_4, hcz16_5, hcz16_6, hcz16_7, hcz16_8, hcz16_9, hcz16_10, hcz16_11, hcz16_12⟩ := bc13 BK252.out; obtain ⟨hfz16_0, hfz16_1, hfz16_2, hfz16_3, hfz16_4, hfz16_5, hfz16_6, hfz16_7, hfz16_8, hfz16_9, hfz16_10, hfz16_11, hfz16_12⟩ := bf13 BK252.out))
  (try simp only [Act.put, List.setIfInBounds_toArray, List.set_cons_zero, List.set_cons_succ])
  go_cut [32] (fun v32 wc => ∃ (kq : Nat) (x32_6 : Bool), v32 = .bool x32_6 ∧ Aside0 (hourglasslaw21_CallWaits.j0 kq a2 a3 a4 x32_6 a0_0 a0_1 a0_2 a0_3 a0_4 a0_5 a0_6 a0_7 a0_8 a0_9 a0_10 a0_11 a0_12 l0_13 a1_0 a1_1 a1_2 a1_3 a1_4 a1_5 a1_6 a1_7 t239 t240 t241 t242 t243 t244 t245 t246 t247 t248 t249 t250 t251 = some r) ∧ Aside0 (kq ≤ k) ∧ Aside0 (wc.heap[gb237]? = some (.cells #[.int .i64 a0_0, .int .i64 a0_1, .int .i64 a0_2, .int .i64 a0_3, .int .i64 a0_4, .int .i64 a0_5, .int .i64 a0_6, .int .i64 a0_7, .int .i64 a0_8, .int .i64 a0_9, .int .i64 a0_10, .int .i64 a0_11, .int .i64 a0_12, (.slice A0_13 l0_13.length c0_13)] 72 (0, 0))) ∧ Aside0 (wc.heap[gb238]? = some (.cells #[.int .i64 a1_0, .int .i64 a1_1, .bool a1_2, .int .i64 a1_3, .int .i64 a1_4, .int .i64 a1_5, .int .i64 a1_6, .int .i64 a1_7] 77 (0, 0))) ∧ Aside0 (wc.heap[gb252]? = some (.cells #[.int .i64 t239, .int .i64 t240, .int .i64 t241, .int .i64 t242, .int .i64 t243, .int .i64 t244, .int .i64 t245, .int .i64 t246, .int .i64 t247, .bool t248, .int .i64 t249, .int .i64 t250, .int .i64 t251] 58 (0, 0))) ∧ Aside0 (Below w.heap.size w wc))
  case first =>
    have H := HC7.out
    clear HC7
    replace H := Option.bind_eq_some_iff.mp H
    obtain ⟨t253, A170, H⟩ := H
    replace H : (if t253 = true then ((hourglassref01_Clamp.f a2).bind fun t254 => ((hourglassref01_Add.f a1_5 a3).bind fun t255 => (hourglasslaw21_CallWaits.j0 k a2 a3 a4 (decide (t254 < t255)) a0_0 a0_1 a0_2 a0_3 a0_4 a0_5 a0_6 a0_7 a0_8 a0_9 a0_10 a0_11 a0_12 l0_13 a1_0 a1_1 a1_2 a1_3 a1_4 a1_5 a1_6 a1_7 t239 t240 t241 t242 t243 t244 t245 t246 t247 t248 t249 t250 t251))) else (hourglasslaw21_CallWaits.j0 k a2 a3 a4 false a0_0 a0_1 a0_2 a0_3 a0_4 a0_5 a0_6 a0_7 a0_8 a0_9 a0_10 a0_11 a0_12 l0_13 a1_0 a1_1 a1_2 a1_3 a1_4 a1_5 a1_6 a1_7 t239 t240 t241 t242 t243 t244 t245 t246 t247 t248 t249 t250 t251)) = some r := H
    have A17 := Aside0.mk A170
    clear A170
    by_cases c18 : t253 = true
    · subst c18
      have H1 : ((hourglassref01_Clamp.f a2).bind fun t254 => ((hourglassref01_Add.f a1_5 a3).bind fun t255 => (hourglasslaw21_CallWaits.j0 k a2 a3 a4 (decide (t254 < t255)) a0_0 a0_1 a0_2 a0_3 a0_4 a0_5 a0_6 a0_7 a0_8 a0_9 a0_10 a0_11 a0_12 l0_13 a1_0 a1_1 a1_2 a1_3 a1_4 a1_5 a1_6 a1_7 t239 t240 t241 t242 t243 t244 t245 t246 t247 t248 t249 t250 t251))) = some r := by rw [if_pos rfl] at H; exact H
      clear H
      have H := H1
      clear H1
      replace H := Option.bind_eq_some_iff.mp H
      obtain ⟨t254, A190, H⟩ := H
      replace H : ((hourglassref01_Add.f a1_5 a3).bind fun t255 => (hourglasslaw21_CallWaits.j0 k a2 a3 a4 (decide (t254 < t255)) a0_0 a0_1 a0_2 a0_3 a0_4 a0_5 a0_6 a0_7 a0_8 a0_9 a0_10 a0_11 a0_12 l0_13 a1_0 a1_1 a1_2 a1_3 a1_4 a1_5 a1_6 a1_7 t239 t240 t241 t242 t243 t244 t245 t246 t247 t248 t249 t250 t251)) = some r := H
      have A19 := Aside0.mk A190
      clear A190
      replace H := Option.bind_eq_some_iff.mp H
      obtain ⟨t255, A200, H⟩ := H
      replace H : (hourglasslaw21_CallWaits.j0 k a2 a3 a4 (decide (t254 < t255)) a0_0 a0_1 a0_2 a0_3 a0_4 a0_5 a0_6 a0_7 a0_8 a0_9 a0_10 a0_11 a0_12 l0_13 a1_0 a1_1 a1_2 a1_3 a1_4 a1_5 a1_6 a1_7 t239 t240 t241 t242 t243 t244 t245 t246 t247 t248 t249 t250 t251) = some r := H
      have A20 := Aside0.mk A200
      clear A200
      have H' := Aside0.mk H
      clear H
      try go_wp2
      have n0_ : Aside0 ((((((((((((((w13.setCell ⟨gb252, 0, none⟩ (.int .i64 t239)).setCell ⟨gb252, 1, none⟩ (.int .i64 t240)).setCell ⟨gb252, 2, none⟩ (.int .i64 t241)).setCell ⟨gb252, 3, none⟩ (.int .i64 t242)).setCell ⟨gb252, 4, none⟩ (.int .i64 t243)).setCell ⟨gb252, 5, none⟩ (.int .i64 t244)).setCell ⟨gb252, 6, none⟩ (.int .i64 t245)).setCell ⟨gb252, 7, none⟩ (.int .i64 t246)).setCell ⟨gb252, 8, none⟩ (.int .i64 t247)).setCell ⟨gb252, 9, none⟩ (.bool t248)).setCell ⟨gb252, 10, none⟩ (.int .i64 t249)).setCell ⟨gb252, 11, none⟩ (.int .i64 t250)).setCell ⟨gb252, 12, none⟩ (.int .i64 t251)).heap[gb237]? = some (.cells #[.int .i64 a0_0, .int .i64 a0_1, .int .i64 a0_2, .int .i64 a0_3, .int .i64 a0_4, .int .i64 a0_5, .int .i64 a0_6, .int .i64 a0_7, .int .i64 a0_8, .int .i64 a0_9, .int .i64 a0_10, .int .i64 a0_11, .int .i64 a0_12, .slice A0_13 l0_13.length c0_13] 72 (0, 0))) := ⟨by (iterate 13 ((with_reducible repeat (first | refine bN ?_ _ | refine bD ?_ | refine bA ?_ _)); refine blk_far ?_ NB237_252.out _)); (with_reducible repeat (first | refine bN ?_ _ | refine bD ?_ | refine bA ?_ _)); exact BK237.out⟩
      have n1_ : Aside0 ((((((((((((((w13.setCell ⟨gb252, 0, none⟩ (.int .i64 t239)).setCell ⟨gb252, 1, none⟩ (.int .i64 t240)).setCell ⟨gb252, 2, none⟩ (.int .i64 t241)).setCell ⟨gb252, 3, none⟩ (.int .i64 t242)).setCell ⟨gb252, 4, none⟩ (.int .i64 t243)).setCell ⟨gb252, 5, none⟩ (.int .i64 t244)).setCell ⟨gb252, 6, none⟩ (.int .i64 t245)).setCell ⟨gb252, 7, none⟩ (.int .i64 t246)).setCell ⟨gb252, 8, none⟩ (.int .i64 t247)).setCell ⟨gb252, 9, none⟩ (.bool t248)).setCell ⟨gb252, 10, none⟩ (.int .i64 t249)).setCell ⟨gb252, 11, none⟩ (.int .i64 t250)).setCell ⟨gb252, 12, none⟩ (.int .i64 t251)).heap[gb238]? = some (.cells #[.int .i64 a1_0, .int .i64 a1_1, .bool a1_2, .int .i64 a1_3, .int .i64 a1_4, .int .i64 a1_5, .int .i64 a1_6, .int .i64 a1_7] 77 (0, 0))) := ⟨by (iterate 13 ((with_reducible repeat (first | refine bN ?_ _ | refine bD ?_ | refine bA ?_ _)); refine blk_far ?_ NB238_252.out _)); (with_reducible repeat (first | refine bN ?_ _ | refine bD ?_ | refine bA ?_ _)); exact BK238.out⟩
      have n2_ : Aside0 ((((((((((((((w13.setCell ⟨gb252, 0, none⟩ (.int .i64 t239)).setCell ⟨gb252, 1, none⟩ (.int .i64 t240)).setCell ⟨gb252, 2, none⟩ (.int .i64 t241)).setCell ⟨gb252, 3, none⟩ (.int .i64 t242)).setCell ⟨gb252, 4, none⟩ (.int .i64 t243)).setCell ⟨gb252, 5, none⟩ (.int .i64 t244)).setCell ⟨gb252, 6, none⟩ (.int .i64 t245)).setCell ⟨gb252, 7, none⟩ (.int .i64 t246)).setCell ⟨gb252, 8, none⟩ (.int .i64 t247)).setCell ⟨gb252, 9, none⟩ (.bool t248)).setCell ⟨gb252, 10, none⟩ (.int .i64 t249)).setCell ⟨gb252, 11, none⟩ (.int .i64 t250)).setCell ⟨gb252, 12, none⟩ (.int .i64 t251)).heap[gb252]? = some (.cells #[.int .i64 t239, .int .i64 t240, .int .i64 t241, .int .i64 t242, .int .i64 t243, .int .i64 t244, .int .i64 t245, .int .i64 t246, .int .i64 t247, .bool t248, .int .i64 t249, .int .i64 t250, .int .i64 t251] 58 (0, 0))) := ⟨by (with_reducible repeat (first | refine bN ?_ _ | refine bD ?_ | refine bA ?_ _)); apply bq; (with_reducible repeat (first | refine bN ?_ _ | refine bD ?_ | refine bA ?_ _)); apply bq; (with_reducible repeat (first | refine bN ?_ _ | refine bD ?_ | refine bA ?_ _)); apply bq; (with_reducible repeat (first | refine bN ?_ _ | refine bD ?_ | refine bA ?_ _)); apply bq; (with_reducible repeat (first | refine bN ?_ _ | refine bD ?_ | refine bA ?_ _)); apply bq; (with_reducible repeat (first | refine bN ?_ _ | refine bD ?_ | refine bA ?_ _)); apply bq; (with_reducible repeat (first | refine bN ?_ _ | refine bD ?_ | refine bA ?_ _)); apply bq; (with_reducible repeat (first | refine bN ?_ _ | refine bD ?_ | refine bA ?_ _)); apply bq; (with_reducible repeat (first | refine bN ?_ _ | refine bD ?_ | refine bA ?_ _)); apply bq; (with_reducible repeat (first | refine bN ?_ _ | refine bD ?_ | refine bA ?_ _)); apply bq; (with_reducible repeat (first | refine bN ?_ _ | refine bD ?_ | refine bA ?_ _)); apply bq; (with_reducible repeat (first | refine bN ?_ _ | refine bD ?_ | refine bA ?_ _)); apply bq; (with_reducible repeat (first | refine bN ?_ _ | refine bD ?_ | refine bA ?_ _)); apply bq; (with_reducible repeat (first | refine bN ?_ _ | refine bD ?_ | refine bA ?_ _)); exact BK252.out; all_goals rfl⟩
      have n3_ : Aside0 (Below w.heap.size w (((((((((((((w13.setCell ⟨gb252, 0, none⟩ (.int .i64 t239)).setCell ⟨gb252, 1, none⟩ (.int .i64 t240)).setCell ⟨gb252, 2, none⟩ (.int .i64 t241)).setCell ⟨gb252, 3, none⟩ (.int .i64 t242)).setCell ⟨gb252, 4, none⟩ (.int .i64 t243)).setCell ⟨gb252, 5, none⟩ (.int .i64 t244)).setCell ⟨gb252, 6, none⟩ (.int .i64 t245)).setCell ⟨gb252, 7, none⟩ (.int .i64 t246)).setCell ⟨gb252, 8, none⟩ (.int .i64 t247)).setCell ⟨gb252, 9, none⟩ (.bool t248)).setCell ⟨gb252, 10, none⟩ (.int .i64 t249)).setCell ⟨gb252, 11, none⟩ (.int .i64 t250)).setCell ⟨gb252, 12, none⟩ (.int .i64 t251))) := ⟨by repeat (first | (with_reducible first | exact HB.out | apply pA | apply pN | apply pD | refine pS ?_ GE237.out | refine pS ?_ GE238.out | refine pS ?_ GE252.out) | exact HB.out)⟩
      (try clear BK237)
      (try clear BK238)
      (try clear BK252)
      (try clear HB)
      generalize (((((((((((((w13.setCell ⟨gb252, 0, none⟩ (.int .i64 t239)).setCell ⟨gb252, 1, none⟩ (.int .i64 t240)).setCell ⟨gb252, 2, none⟩ (.int .i64 t241)).setCell ⟨gb252, 3, none⟩ (.int .i64 t242)).setCell ⟨gb252, 4, none⟩ (.int .i64 t243)).setCell ⟨gb252, 5, none⟩ (.int .i64 t244)).setCell ⟨gb252, 6, none⟩ (.int .i64 t245)).setCell ⟨gb252, 7, none⟩ (.int .i64 t246)).setCell ⟨gb252, 8, none⟩ (.int .i64 t247)).setCell ⟨gb252, 9, none⟩ (.bool t248)).setCell ⟨gb252, 10, none⟩ (.int .i64 t249)).setCell ⟨gb252, 11, none⟩ (.int .i64 t250)).setCell ⟨gb252, 12, none⟩ (.int .i64 t251)) = w21 at n0_ n1_ n2_ n3_ ⊢
      have BK237 := n0_
      have BK238 := n1_
      have BK252 := n2_
      have HB := n3_
      clear n0_ n1_ n2_ n3_
      have n0_ := Aside0.mk (blk_drew BK237.out)
      have n1_ := Aside0.mk (blk_drew BK238.out)
      have n2_ := Aside0.mk (blk_drew BK252.out)
      have n3_ := Aside0.mk (below_drew1 HB.out)
      clear BK237
      clear BK238
      clear BK252
      clear HB
      have BK237 := n0_
      have BK238 := n1_
      have BK252 := n2_
      have HB := n3_
      clear n0_ n1_ n2_ n3_
      refine start_ (n := 14) (S := fun w' => w'.cell? ⟨gb252, 0, none⟩ = some (.int .i64 t239) ∧ w'.cell? ⟨gb252, 1, none⟩ = some (.int .i64 t240) ∧ w'.cell? ⟨gb252, 2, none⟩ = some (.int .i64 t241) ∧ w'.cell? ⟨gb252, 3, none⟩ = some (.int .i64 t242) ∧ w'.cell? ⟨gb252, 4, none⟩ = some (.int .i64 t243) ∧ w'.cell? ⟨gb252, 5, none⟩ = some (.int .i64 t244) ∧ w'.cell? ⟨gb252, 6, none⟩ = some (.int .i64 t245) ∧ w'.cell? ⟨gb252, 7, none⟩ = some (.int .i64 t246) ∧ w'.cell? ⟨gb252, 8, none⟩ = some (.int .i64 t247) ∧ w'.cell? ⟨gb252, 9, none⟩ = some (.bool t248) ∧ w'.cell? ⟨gb252, 10, none⟩ = some (.int .i64 t249) ∧ w'.cell? ⟨gb252, 11, none⟩ = some (.int .i64 t250) ∧ w'.cell? ⟨gb252, 12, none⟩ = some (.int .i64 t251) ∧ w'.cell? ⟨gb238, 0, none⟩ = some (.int .i64 a1_0) ∧ w'.cell? ⟨gb238, 1, none⟩ = some (.int .i64 a1_1) ∧ w'.cell? ⟨gb238, 2, none⟩ = some (.bool a1_2) ∧ w'.cell? ⟨gb238, 3, none⟩ = some (.int .i64 a1_3) ∧ w'.cell? ⟨gb238, 4, none⟩ = some (.int .i64 a1_4) ∧ w'.cell? ⟨gb238, 5, none⟩ = some (.int .i64 a1_5) ∧ w'.cell? ⟨gb238, 6, none⟩ = some (.int .i64 a1_6) ∧ w'.cell? ⟨gb238, 7, none⟩ = some (.int .i64 a1_7)) (ds := []) #[false, false, false, false, false, false, false, false, false, false, false, false, false, false] (by kernel_rfl) rfl rfl (br13 BK252.out (bc8 BK238.out)) (fun hHeld => ?_); refine with_tabW hourglasslaw21_CallWaits.tab2 hourglasslaw21_CallWaits.bits2 (fun HT_ HW_ => ?_)
      generalize w21.drew = w22 at BK237 BK238 BK252 HB hHeld ⊢
      refine pure_ (i := 1) (N := some 20) (v := ?_) (a' := ?_) #[false, true, false, false, false, false, false, false, false, false, false, false, false, false] rfl rfl (any_of HT_.out (by kernel_rfl)) (fun _ _ _ h => h) (Or.inl ⟨by rfl, ?_⟩) ?_ ?_
      rotate_left
      · intro w'
        go_simp
        with_reducible rfl
      rotate_left
      · simp only [Act.put, List.setIfInBounds_toArray, List.set_cons_zero, List.set_cons_succ, i64_w, i32_w]
        rfl
      refine pure_ (i := 2) (N := some 21) (v := ?_) (a' := ?_) #[false, true, true, false, false, false, false, false, false, false, false, false, false, false] rfl rfl (any_of HT_.out (by kernel_rfl)) (fun _ _ _ h => h) (Or.inl ⟨by rfl, ?_⟩) ?_ ?_
      rotate_left
      · intro w'
        go_simp
        with_reducible rfl
      rotate_left
      · simp only [Act.put, List.setIfInBounds_toArray, List.set_cons_zero, List.set_cons_succ, i64_w, i32_w]
        rfl
      refine pure_ (i := 3) (N := some 22) (v := ?_) (a' := ?_) #[false, true, true, true, false, false, false, false, false, false, false, false, false, false] rfl rfl (any_of HT_.out (by kernel_rfl)) (fun _ _ _ h => h) (Or.inl ⟨by rfl, ?_⟩) ?_ ?_
      rotate_left
      · intro w'
        go_simp
        with_reducible rfl
      rotate_left
      · simp only [Act.put, List.setIfInBounds_toArray, List.set_cons_zero, List.set_cons_succ, i64_w, i32_w]
        rfl
      refine take_ (i := 0) (N := some 19) (v := ?_) (a' := ?_) #[true, true, true, true, false, false, false, false, false, false, false, false, false, false] rfl rfl (take_ofW HT_.out HW_.out (by kernel_rfl)) (fun _ _ _ h => h) (Or.inl ⟨by rfl, ?_⟩) hHeld ?_ ?_
      rotate_left
      · rintro w' ⟨s0, s1, s2, s3, s4, s5, s6, s7, s8, s9, s10, s11, s12, s13, s14, s15, s16, s17, s18, s19, s20⟩
        go_simp
        with_reducible rfl
      rotate_left
      · simp only [Act.put, List.setIfInBounds_toArray, List.set_cons_zero, List.set_cons_succ, i64_w, i32_w]
        rfl
      refine one_ (i := 4) (N := some 23) #[true, true, true, true, true, false, false, false, false, false, false, false, false, false] rfl rfl (one_of HT_.out (by kernel_rfl)) (by decide) (fun K hK => ?_)
      refine goes_ Try.func41 (by kernel_rfl) rfl #[.agg #[.int .i64 t239, .int .i64 t240, .int .i64 t241, .int .i64 t242, .int .i64 t243, .int .i64 t244, .int .i64 t245, .int .i64 t246, .int .i64 t247, .bool t248, .int .i64 t249, .int .i64 t250, .int .i64 t251], .int .i64 a2, .int .i64 a3, .int .i64 a4] (by rfl) rfl rfl (by (try simp only [List.map_toArray, List.map_cons, List.map_nil]); first | done | rfl | (simp only [List.length_drop, List.length_take]; rfl)) ?_
      with_reducible refine (call_Lost.calls t239 t240 t241 t242 t243 t244 t245 t246 t247 t248 t249 t250 t251 a2 a3 a4 true _ A17.out).mono ?_
      rintro e w23 ⟨rfl, hb⟩
      refine ⟨_, rfl, ?_⟩
      have n0_ := Aside0.mk (blk_below (g := gb237) (by (with_reducible repeat (first | refine bN ?_ _ | refine bD ?_ | refine bA ?_ _)); exact BK237.out) hb)
      have n1_ := Aside0.mk (blk_below (g := gb238) (by (with_reducible repeat (first | refine bN ?_ _ | refine bD ?_ | refine bA ?_ _)); exact BK238.out) hb)
      have n2_ := Aside0.mk (blk_below (g := gb252) (by (with_reducible repeat (first | refine bN ?_ _ | refine bD ?_ | refine bA ?_ _)); exact BK252.out) hb)
      have n3_ := Aside0.mk (below_step (by repeat (first | (with_reducible first | exact HB.out | apply pA | apply pN | apply pD | refine pS ?_ GE237.out | refine pS ?_ GE238.out | refine pS ?_ GE252.out) | exact HB.out)) hb)
      clear BK237
      clear BK238
      clear BK252
      clear HB
      have BK237 := n0_
      have BK238 := n1_
      have BK252 := n2_
      have HB := n3_
      clear n0_ n1_ n2_ n3_
      (try clear hb)
      (try clear hb2)
      (try clear hk)
      (try clear hi)
      refine hK.out _ _ (br13 BK252.out (bc8 BK238.out)) (fun hHeld => ?_)
      clear hK K
      refine norm_ (a' := ?_) ?_ ?_
      rotate_left
      · show Act.put _ (some 23) _ = _
        simp only [Act.put, List.setIfInBounds_toArray, List.set_cons_zero, List.set_cons_succ, i64_w, i32_w]
        rfl
      refine pure_ (i := 5) (N := some 24) (v := ?_) (a' := ?_) #[true, true, true, true, true, true, false, false, false, false, false, false, false, false] rfl rfl (any_of HT_.out (by kernel_rfl)) (fun _ _ _ h => h) (Or.inl ⟨by rfl, ?_⟩) ?_ ?_
      rotate_left
      · intro w'
        go_simp
        with_reducible rfl
      rotate_left
      · simp only [Act.put, List.setIfInBounds_toArray, List.set_cons_zero, List.set_cons_succ, i64_w, i32_w]
        rfl
      refine pure_ (i := 6) (N := some 25) (v := ?_) (a' := ?_) #[true, true, true, true, true, true, true, false, false, false, false, false, false, false] rfl rfl (any_of HT_.out (by kernel_rfl)) (fun _ _ _ h => h) (Or.inl ⟨by rfl, ?_⟩) ?_ ?_
      rotate_left
      · intro w'
        go_simp
        with_reducible rfl
      rotate_left
      · simp only [Act.put, List.setIfInBounds_toArray, List.set_cons_zero, List.set_cons_succ, i64_w, i32_w]
        rfl
      refine pure_ (i := 8) (N := some 27) (v := ?_) (a' := ?_) #[true, true, true, true, true, true, true, false, true, false, false, false, false, false] rfl rfl (any_of HT_.out (by kernel_rfl)) (fun _ _ _ h => h) (Or.inl ⟨by rfl, ?_⟩) ?_ ?_
      rotate_left
      · intro w'
        go_simp
        with_reducible rfl
      rotate_left
      · simp only [Act.put, List.setIfInBounds_toArray, List.set_cons_zero, List.set_cons_succ, i64_w, i32_w]
        rfl
      refine pure_ (i := 10) (N := some 29) (v := ?_) (a' := ?_) #[true, true, true, true, true, true, true, false, true, false, true, false, false, false] rfl rfl (any_of HT_.out (by kernel_rfl)) (fun _ _ _ h => h) (Or.inl ⟨by rfl, ?_⟩) ?_ ?_
      rotate_left
      · intro w'
        go_simp
        with_reducible rfl
      rotate_left
      · simp only [Act.put, List.setIfInBounds_toArray, List.set_cons_zero, List.set_cons_succ, i64_w, i32_w]
        rfl
      refine take_ (i := 9) (N := some 28) (v := ?_) (a' := ?_) #[true, true, true, true, true, true, true, false, true, true, true, false, false, false] rfl rfl (take_ofW HT_.out HW_.out (by kernel_rfl)) (fun _ _ _ h => h) (Or.inl ⟨by rfl, ?_⟩) hHeld ?_ ?_
      rotate_left
      · rintro w' ⟨s0, s1, s2, s3, s4, s5, s6, s7, s8, s9, s10, s11, s12, s13, s14, s15, s16, s17, s18, s19, s20⟩
        go_simp
        with_reducible rfl
      rotate_left
      · simp only [Act.put, List.setIfInBounds_toArray, List.set_cons_zero, List.set_cons_succ, i64_w, i32_w]
        rfl
      refine one_ (i := 7) (N := some 26) #[true, true, true, true, true, true, true, true, true, true, true, false, false, false] rfl rfl (one_of HT_.out (by kernel_rfl)) (by decide) (fun K hK => ?_)
      refine goes_ Try.func20 (by kernel_rfl) rfl #[.int .i64 a2] (by rfl) rfl rfl (by (try simp only [List.map_toArray, List.map_cons, List.map_nil]); first | done | rfl | (simp only [List.length_drop, List.length_take]; rfl)) ?_
      with_reducible refine (hourglassref01_Clamp.calls a2 t254 _ A19.out).mono ?_
      rintro e w' ⟨rfl, ⟨nd, rfl⟩⟩
      refine ⟨_, rfl, ?_⟩
      refine hK.out _ _ (br13 BK252.out (bc8 BK238.out)) (fun hHeld => ?_)
      clear hK K
      refine norm_ (a' := ?_) ?_ ?_
      rotate_left
      · show Act.put _ (some 26) _ = _
        simp only [Act.put, List.setIfInBounds_toArray, List.set_cons_zero, List.set_cons_succ, i64_w, i32_w]
        rfl
      refine one_ (i := 11) (N := some 30) #[true, true, true, true, true, true, true, true, true, true, true, true, false, false] rfl rfl (one_of HT_.out (by kernel_rfl)) (by decide) (fun K hK => ?_)
      refine goes_ Try.func42 (by kernel_rfl) rfl #[.int .i64 a1_5, .int .i64 a3] (by rfl) rfl rfl (by (try simp only [List.map_toArray, List.map_cons, List.map_nil]); first | done | rfl | (simp only [List.length_drop, List.length_take]; rfl)) ?_
      with_reducible refine (hourglassref01_Add.calls a1_5 a3 t255 _ A20.out).mono ?_
      rintro e w' ⟨rfl, ⟨nd, rfl⟩⟩
      refine ⟨_, rfl, ?_⟩
      refine hK.out _ _ (br13 BK252.out (bc8 BK238.out)) (fun hHeld => ?_)
      clear hK K
      refine norm_ (a' := ?_) ?_ ?_
      rotate_left
      · show Act.put _ (some 30) _ = _
        simp only [Act.put, List.setIfInBounds_toArray, List.set_cons_zero, List.set_cons_succ, i64_w, i32_w]
        rfl
      refine pure_ (i := 12) (N := some 31) (v := ?_) (a' := ?_) #[true, true, true, true, true, true, true, true, true, true, true, true, true, false] rfl rfl (any_of HT_.out (by kernel_rfl)) (fun _ _ _ h => h) (Or.inl ⟨by rfl, ?_⟩) ?_ ?_
      rotate_left
      · intro w'
        go_simp
        with_reducible rfl
      rotate_left
      · simp only [Act.put, List.setIfInBounds_toArray, List.set_cons_zero, List.set_cons_succ, i64_w, i32_w]
        rfl
      refine pure_ (i := 13) (N := some 32) (v := ?_) (a' := ?_) #[true, true, true, true, true, true, true, true, true, true, true, true, true, true] rfl rfl (any_of HT_.out (by kernel_rfl)) (fun _ _ _ h => h) (Or.inl ⟨by rfl, ?_⟩) ?_ ?_
      rotate_left
      · intro w'
        go_simp
        with_reducible rfl
      rotate_left
      · simp only [Act.put, List.setIfInBounds_toArray, List.set_cons_zero, List.set_cons_succ, i64_w, i32_w]
        rfl
      refine done_ (done_of HT_.out (by kernel_rfl)) ?_
      try go_wp2
      go_meet
      case rel => exact ⟨_, (decide (t254 < t255)), (by first | rfl | (simp; done) | (simp [*]; done)), H', ⟨by first | omega | exact Nat.le_refl _⟩, ⟨by (with_reducible repeat (first | refine bN ?_ _ | refine bD ?_ | refine bA ?_ _)); exact BK237.out⟩, ⟨by (with_reducible repeat (first | refine bN ?_ _ | refine bD ?_ | refine bA ?_ _)); exact BK238.out⟩, ⟨by (with_reducible repeat (first | refine bN ?_ _ | refine bD ?_ | refine bA ?_ _)); exact BK252.out⟩, ⟨by repeat (first | (with_reducible first | exact HB.out | apply pA | apply pN | apply pD | refine pS ?_ GE237.out | refine pS ?_ GE238.out | refine pS ?_ GE252.out) | exact HB.out)⟩⟩
    · replace c18 := Bool.eq_false_iff.mpr c18
      subst c18
      have H1 : (hourglasslaw21_CallWaits.j0 k a2 a3 a4 false a0_0 a0_1 a0_2 a0_3 a0_4 a0_5 a0_6 a0_7 a0_8 a0_9 a0_10 a0_11 a0_12 l0_13 a1_0 a1_1 a1_2 a1_3 a1_4 a1_5 a1_6 a1_7 t239 t240 t241 t242 t243 t244 t245 t246 t247 t248 t249 t250 t251) = some r := by rw [if_neg (show ¬ (false = true) by decide)] at H; exact H
      clear H
      have H := H1
      clear H1
      have H' := Aside0.mk H
      clear H
      try go_wp2
      have n0_ : Aside0 ((((((((((((((w13.setCell ⟨gb252, 0, none⟩ (.int .i64 t239)).setCell ⟨gb252, 1, none⟩ (.int .i64 t240)).setCell ⟨gb252, 2, none⟩ (.int .i64 t241)).setCell ⟨gb252, 3, none⟩ (.int .i64 t242)).setCell ⟨gb252, 4, none⟩ (.int .i64 t243)).setCell ⟨gb252, 5, none⟩ (.int .i64 t244)).setCell ⟨gb252, 6, none⟩ (.int .i64 t245)).setCell ⟨gb252, 7, none⟩ (.int .i64 t246)).setCell ⟨gb252, 8, none⟩ (.int .i64 t247)).setCell ⟨gb252, 9, none⟩ (.bool t248)).setCell ⟨gb252, 10, none⟩ (.int .i64 t249)).setCell ⟨gb252, 11, none⟩ (.int .i64 t250)).setCell ⟨gb252, 12, none⟩ (.int .i64 t251)).heap[gb237]? = some (.cells #[.int .i64 a0_0, .int .i64 a0_1, .int .i64 a0_2, .int .i64 a0_3, .int .i64 a0_4, .int .i64 a0_5, .int .i64 a0_6, .int .i64 a0_7, .int .i64 a0_8, .int .i64 a0_9, .int .i64 a0_10, .int .i64 a0_11, .int .i64 a0_12, .slice A0_13 l0_13.length c0_13] 72 (0, 0))) := ⟨by (iterate 13 ((with_reducible repeat (first | refine bN ?_ _ | refine bD ?_ | refine bA ?_ _)); refine blk_far ?_ NB237_252.out _)); (with_reducible repeat (first | refine bN ?_ _ | refine bD ?_ | refine bA ?_ _)); exact BK237.out⟩
      have n1_ : Aside0 ((((((((((((((w13.setCell ⟨gb252, 0, none⟩ (.int .i64 t239)).setCell ⟨gb252, 1, none⟩ (.int .i64 t240)).setCell ⟨gb252, 2, none⟩ (.int .i64 t241)).setCell ⟨gb252, 3, none⟩ (.int .i64 t242)).setCell ⟨gb252, 4, none⟩ (.int .i64 t243)).setCell ⟨gb252, 5, none⟩ (.int .i64 t244)).setCell ⟨gb252, 6, none⟩ (.int .i64 t245)).setCell ⟨gb252, 7, none⟩ (.int .i64 t246)).setCell ⟨gb252, 8, none⟩ (.int .i64 t247)).setCell ⟨gb252, 9, none⟩ (.bool t248)).setCell ⟨gb252, 10, none⟩ (.int .i64 t249)).setCell ⟨gb252, 11, none⟩ (.int .i64 t250)).setCell ⟨gb252, 12, none⟩ (.int .i64 t251)).heap[gb238]? = some (.cells #[.int .i64 a1_0, .int .i64 a1_1, .bool a1_2, .int .i64 a1_3, .int .i64 a1_4, .int .i64 a1_5, .int .i64 a1_6, .int .i64 a1_7] 77 (0, 0))) := ⟨by (iterate 13 ((with_reducible repeat (first | refine bN ?_ _ | refine bD ?_ | refine bA ?_ _)); refine blk_far ?_ NB238_252.out _)); (with_reducible repeat (first | refine bN ?_ _ | refine bD ?_ | refine bA ?_ _)); exact BK238.out⟩
      have n2_ : Aside0 ((((((((((((((w13.setCell ⟨gb252, 0, none⟩ (.int .i64 t239)).setCell ⟨gb252, 1, none⟩ (.int .i64 t240)).setCell ⟨gb252, 2, none⟩ (.int .i64 t241)).setCell ⟨gb252, 3, none⟩ (.int .i64 t242)).setCell ⟨gb252, 4, none⟩ (.int .i64 t243)).setCell ⟨gb252, 5, none⟩ (.int .i64 t244)).setCell ⟨gb252, 6, none⟩ (.int .i64 t245)).setCell ⟨gb252, 7, none⟩ (.int .i64 t246)).setCell ⟨gb252, 8, none⟩ (.int .i64 t247)).setCell ⟨gb252, 9, none⟩ (.bool t248)).setCell ⟨gb252, 10, none⟩ (.int .i64 t249)).setCell ⟨gb252, 11, none⟩ (.int .i64 t250)).setCell ⟨gb252, 12, none⟩ (.int .i64 t251)).heap[gb252]? = some (.cells #[.int .i64 t239, .int .i64 t240, .int .i64 t241, .int .i64 t242, .int .i64 t243, .int .i64 t244, .int .i64 t245, .int .i64 t246, .int .i64 t247, .bool t248, .int .i64 t249, .int .i64 t250, .int .i64 t251] 58 (0, 0))) := ⟨by (with_reducible repeat (first | refine bN ?_ _ | refine bD ?_ | refine bA ?_ _)); apply bq; (with_reducible repeat (first | refine bN ?_ _ | refine bD ?_ | refine bA ?_ _)); apply bq; (with_reducible repeat (first | refine bN ?_ _ | refine bD ?_ | refine bA ?_ _)); apply bq; (with_reducible repeat (first | refine bN ?_ _ | refine bD ?_ | refine bA ?_ _)); apply bq; (with_reducible repeat (first | refine bN ?_ _ | refine bD ?_ | refine bA ?_ _)); apply bq; (with_reducible repeat (first | refine bN ?_ _ | refine bD ?_ | refine bA ?_ _)); apply bq; (with_reducible repeat (first | refine bN ?_ _ | refine bD ?_ | refine bA ?_ _)); apply bq; (with_reducible repeat (first | refine bN ?_ _ | refine bD ?_ | refine bA ?_ _)); apply bq; (with_reducible repeat (first | refine bN ?_ _ | refine bD ?_ | refine bA ?_ _)); apply bq; (with_reducible repeat (first | refine bN ?_ _ | refine bD ?_ | refine bA ?_ _)); apply bq; (with_reducible repeat (first | refine bN ?_ _ | refine bD ?_ | refine bA ?_ _)); apply bq; (with_reducible repeat (first | refine bN ?_ _ | refine bD ?_ | refine bA ?_ _)); apply bq; (with_reducible repeat (first | refine bN ?_ _ | refine bD ?_ | refine bA ?_ _)); apply bq; (with_reducible repeat (first | refine bN ?_ _ | refine bD ?_ | refine bA ?_ _)); exact BK252.out; all_goals rfl⟩
      have n3_ : Aside0 (Below w.heap.size w (((((((((((((w13.setCell ⟨gb252, 0, none⟩ (.int .i64 t239)).setCell ⟨gb252, 1, none⟩ (.int .i64 t240)).setCell ⟨gb252, 2, none⟩ (.int .i64 t241)).setCell ⟨gb252, 3, none⟩ (.int .i64 t242)).setCell ⟨gb252, 4, none⟩ (.int .i64 t243)).setCell ⟨gb252, 5, none⟩ (.int .i64 t244)).setCell ⟨gb252, 6, none⟩ (.int .i64 t245)).setCell ⟨gb252, 7, none⟩ (.int .i64 t246)).setCell ⟨gb252, 8, none⟩ (.int .i64 t247)).setCell ⟨gb252, 9, none⟩ (.bool t248)).setCell ⟨gb252, 10, none⟩ (.int .i64 t249)).setCell ⟨gb252, 11, none⟩ (.int .i64 t250)).setCell ⟨gb252, 12, none⟩ (.int .i64 t251))) := ⟨by repeat (first | (with_reducible first | exact HB.out | apply pA | apply pN | apply pD | refine pS ?_ GE237.out | refine pS ?_ GE238.out | refine pS ?_ GE252.out) | exact HB.out)⟩
      (try clear BK237)
      (try clear BK238)
      (try clear BK252)
      (try clear HB)
      generalize (((((((((((((w13.setCell ⟨gb252, 0, none⟩ (.int .i64 t239)).setCell ⟨gb252, 1, none⟩ (.int .i64 t240)).setCell ⟨gb252, 2, none⟩ (.int .i64 t241)).setCell ⟨gb252, 3, none⟩ (.int .i64 t242)).setCell ⟨gb252, 4, none⟩ (.int .i64 t243)).setCell ⟨gb252, 5, none⟩ (.int .i64 t244)).setCell ⟨gb252, 6, none⟩ (.int .i64 t245)).setCell ⟨gb252, 7, none⟩ (.int .i64 t246)).setCell ⟨gb252, 8, none⟩ (.int .i64 t247)).setCell ⟨gb252, 9, none⟩ (.bool t248)).setCell ⟨gb252, 10, none⟩ (.int .i64 t249)).setCell ⟨gb252, 11, none⟩ (.int .i64 t250)).setCell ⟨gb252, 12, none⟩ (.int .i64 t251)) = w24 at n0_ n1_ n2_ n3_ ⊢
      have BK237 := n0_
      have BK238 := n1_
      have BK252 := n2_
      have HB := n3_
      clear n0_ n1_ n2_ n3_
      have n0_ := Aside0.mk (blk_drew BK237.out)
      have n1_ := Aside0.mk (blk_drew BK238.out)
      have n2_ := Aside0.mk (blk_drew BK252.out)
      have n3_ := Aside0.mk (below_drew1 HB.out)
      clear BK237
      clear BK238
      clear BK252
      clear HB
      have BK237 := n0_
      have BK238 := n1_
      have BK252 := n2_
      have HB := n3_
      clear n0_ n1_ n2_ n3_
      refine start_ (n := 14) (S := fun w' => w'.cell? ⟨gb252, 0, none⟩ = some (.int .i64 t239) ∧ w'.cell? ⟨gb252, 1, none⟩ = some (.int .i64 t240) ∧ w'.cell? ⟨gb252, 2, none⟩ = some (.int .i64 t241) ∧ w'.cell? ⟨gb252, 3, none⟩ = some (.int .i64 t242) ∧ w'.cell? ⟨gb252, 4, none⟩ = some (.int .i64 t243) ∧ w'.cell? ⟨gb252, 5, none⟩ = some (.int .i64 t244) ∧ w'.cell? ⟨gb252, 6, none⟩ = some (.int .i64 t245) ∧ w'.cell? ⟨gb252, 7, none⟩ = some (.int .i64 t246) ∧ w'.cell? ⟨gb252, 8, none⟩ = some (.int .i64 t247) ∧ w'.cell? ⟨gb252, 9, none⟩ = some (.bool t248) ∧ w'.cell? ⟨gb252, 10, none⟩ = some (.int .i64 t249) ∧ w'.cell? ⟨gb252, 11, none⟩ = some (.int .i64 t250) ∧ w'.cell? ⟨gb252, 12, none⟩ = some (.int .i64 t251)) (ds := []) #[false, false, false, false, false, false, false, false, false, false, false, false, false, false] (by kernel_rfl) rfl rfl (bc13 BK252.out) (fun hHeld => ?_); refine with_tabW hourglasslaw21_CallWaits.tab2 hourglasslaw21_CallWaits.bits2 (fun HT_ HW_ => ?_)
      generalize w24.drew = w25 at BK237 BK238 BK252 HB hHeld ⊢
      refine pure_ (i := 1) (N := some 20) (v := ?_) (a' := ?_) #[false, true, false, false, false, false, false, false, false, false, false, false, false, false] rfl rfl (any_of HT_.out (by kernel_rfl)) (fun _ _ _ h => h) (Or.inl ⟨by rfl, ?_⟩) ?_ ?_
      rotate_left
      · intro w'
        go_simp
        with_reducible rfl
      rotate_left
      · simp only [Act.put, List.setIfInBounds_toArray, List.set_cons_zero, List.set_cons_succ, i64_w, i32_w]
        rfl
      refine pure_ (i := 2) (N := some 21) (v := ?_) (a' := ?_) #[false, true, true, false, false, false, false, false, false, false, false, false, false, false] rfl rfl (any_of HT_.out (by kernel_rfl)) (fun _ _ _ h => h) (Or.inl ⟨by rfl, ?_⟩) ?_ ?_
      rotate_left
      · intro w'
        go_simp
        with_reducible rfl
      rotate_left
      · simp only [Act.put, List.setIfInBounds_toArray, List.set_cons_zero, List.set_cons_succ, i64_w, i32_w]
        rfl
      refine pure_ (i := 3) (N := some 22) (v := ?_) (a' := ?_) #[false, true, true, true, false, false, false, false, false, false, false, false, false, false] rfl rfl (any_of HT_.out (by kernel_rfl)) (fun _ _ _ h => h) (Or.inl ⟨by rfl, ?_⟩) ?_ ?_
      rotate_left
      · intro w'
        go_simp
        with_reducible rfl
      rotate_left
      · simp only [Act.put, List.setIfInBounds_toArray, List.set_cons_zero, List.set_cons_succ, i64_w, i32_w]
        rfl
      refine take_ (i := 0) (N := some 19) (v := ?_) (a' := ?_) #[true, true, true, true, false, false, false, false, false, false, false, false, false, false] rfl rfl (take_ofW HT_.out HW_.out (by kernel_rfl)) (fun _ _ _ h => h) (Or.inl ⟨by rfl, ?_⟩) hHeld ?_ ?_
      rotate_left
      · rintro w' ⟨s0, s1, s2, s3, s4, s5, s6, s7, s8, s9, s10, s11, s12⟩
        go_simp
        with_reducible rfl
      rotate_left
      · simp only [Act.put, List.setIfInBounds_toArray, List.set_cons_zero, List.set_cons_succ, i64_w, i32_w]
        rfl
      refine one_ (i := 4) (N := some 23) #[true, true, true, true, true, false, false, false, false, false, false, false, false, false] rfl rfl (one_of HT_.out (by kernel_rfl)) (by decide) (fun K hK => ?_)
      refine goes_ Try.func41 (by kernel_rfl) rfl #[.agg #[.int .i64 t239, .int .i64 t240, .int .i64 t241, .int .i64 t242, .int .i64 t243, .int .i64 t244, .int .i64 t245, .int .i64 t246, .int .i64 t247, .bool t248, .int .i64 t249, .int .i64 t250, .int .i64 t251], .int .i64 a2, .int .i64 a3, .int .i64 a4] (by rfl) rfl rfl (by (try simp only [List.map_toArray, List.map_cons, List.map_nil]); first | done | rfl | (simp only [List.length_drop, List.length_take]; rfl)) ?_
      with_reducible refine (call_Lost.calls t239 t240 t241 t242 t243 t244 t245 t246 t247 t248 t249 t250 t251 a2 a3 a4 false _ A17.out).mono ?_
      rintro e w26 ⟨rfl, hb⟩
      refine ⟨_, rfl, ?_⟩
      have n0_ := Aside0.mk (blk_below (g := gb237) (by (with_reducible repeat (first | refine bN ?_ _ | refine bD ?_ | refine bA ?_ _)); exact BK237.out) hb)
      have n1_ := Aside0.mk (blk_below (g := gb238) (by (with_reducible repeat (first | refine bN ?_ _ | refine bD ?_ | refine bA ?_ _)); exact BK238.out) hb)
      have n2_ := Aside0.mk (blk_below (g := gb252) (by (with_reducible repeat (first | refine bN ?_ _ | refine bD ?_ | refine bA ?_ _)); exact BK252.out) hb)
      have n3_ := Aside0.mk (below_step (by repeat (first | (with_reducible first | exact HB.out | apply pA | apply pN | apply pD | refine pS ?_ GE237.out | refine pS ?_ GE238.out | refine pS ?_ GE252.out) | exact HB.out)) hb)
      clear BK237
      clear BK238
      clear BK252
      clear HB
      have BK237 := n0_
      have BK238 := n1_
      have BK252 := n2_
      have HB := n3_
      clear n0_ n1_ n2_ n3_
      (try clear hb)
      (try clear hb2)
      (try clear hk)
      (try clear hi)
      refine hK.out _ _ (bc13 BK252.out) (fun hHeld => ?_)
      clear hK K
      refine norm_ (a' := ?_) ?_ ?_
      rotate_left
      · show Act.put _ (some 23) _ = _
        simp only [Act.put, List.setIfInBounds_toArray, List.set_cons_zero, List.set_cons_succ, i64_w, i32_w]
        rfl
      refine pure_ (i := 5) (N := some 24) (v := ?_) (a' := ?_) #[true, true, true, true, true, true, false, false, false, false, false, false, false, false] rfl rfl (any_of HT_.out (by kernel_rfl)) (fun _ _ _ h => h) (Or.inl ⟨by rfl, ?_⟩) ?_ ?_
      rotate_left
      · intro w'
        go_simp
        with_reducible rfl
      rotate_left
      · simp only [Act.put, List.setIfInBounds_toArray, List.set_cons_zero, List.set_cons_succ, i64_w, i32_w]
        rfl
      refine pure_ (i := 6) (N := some 25) (v := undef) (a' := ?_) #[true, true, true, true, true, true, true, false, false, false, false, false, false, false] rfl rfl (any_of HT_.out (by kernel_rfl)) (fun _ _ _ h => h) (Or.inr ⟨by rfl, rfl⟩) ?_ ?_
      rotate_left
      · simp only [Act.put, List.setIfInBounds_toArray, List.set_cons_zero, List.set_cons_succ, i64_w, i32_w]
        rfl
      refine pure_ (i := 7) (N := some 26) (v := undef) (a' := ?_) #[true, true, true, true, true, true, true, true, false, false, false, false, false, false] rfl rfl (any_of HT_.out (by kernel_rfl)) (fun _ _ _ h => h) (Or.inr ⟨by rfl, rfl⟩) ?_ ?_
      rotate_left
      · simp only [Act.put, List.setIfInBounds_toArray, List.set_cons_zero, List.set_cons_succ, i64_w, i32_w]
        rfl
      refine pure_ (i := 8) (N := some 27) (v := undef) (a' := ?_) #[true, true, true, true, true, true, true, true, true, false, false, false, false, false] rfl rfl (any_of HT_.out (by kernel_rfl)) (fun _ _ _ h => h) (Or.inr ⟨by rfl, rfl⟩) ?_ ?_
      rotate_left
      · simp only [Act.put, List.setIfInBounds_toArray, List.set_cons_zero, List.set_cons_succ, i64_w, i32_w]
        rfl
      refine pure_ (i := 9) (N := some 28) (v := undef) (a' := ?_) #[true, true, true, true, true, true, true, true, true, true, false, false, false, false] rfl rfl (any_of HT_.out (by kernel_rfl)) (fun _ _ _ h => h) (Or.inr ⟨by rfl, rfl⟩) ?_ ?_
      rotate_left
      · simp only [Act.put, List.setIfInBounds_toArray, List.set_cons_zero, List.set_cons_succ, i64_w, i32_w]
        rfl
      refine pure_ (i := 10) (N := some 29) (v := undef) (a' := ?_) #[true, true, true, true, true, true, true, true, true, true, true, false, false, false] rfl rfl (any_of HT_.out (by kernel_rfl)) (fun _ _ _ h => h) (Or.inr ⟨by rfl, rfl⟩) ?_ ?_
      rotate_left
      · simp only [Act.put, List.setIfInBounds_toArray, List.set_cons_zero, List.set_cons_succ, i64_w, i32_w]
        rfl
      refine pure_ (i := 11) (N := some 30) (v := undef) (a' := ?_) #[true, true, true, true, true, true, true, true, true, true, true, true, false, false] rfl rfl (any_of HT_.out (by kernel_rfl)) (fun _ _ _ h => h) (Or.inr ⟨by rfl, rfl⟩) ?_ ?_
      rotate_left
      · simp only [Act.put, List.setIfInBounds_toArray, List.set_cons_zero, List.set_cons_succ, i64_w, i32_w]
        rfl
      refine pure_ (i := 12) (N := some 31) (v := undef) (a' := ?_) #[true, true, true, true, true, true, true, true, true, true, true, true, true, false] rfl rfl (any_of HT_.out (by kernel_rfl)) (fun _ _ _ h => h) (Or.inr ⟨by rfl, rfl⟩) ?_ ?_
      rotate_left
      · simp only [Act.put, List.setIfInBounds_toArray, List.set_cons_zero, List.set_cons_succ, i64_w, i32_w]
        rfl
      refine pure_ (i := 13) (N := some 32) (v := ?_) (a' := ?_) #[true, true, true, true, true, true, true, true, true, true, true, true, true, true] rfl rfl (any_of HT_.out (by kernel_rfl)) (fun _ _ _ h => h) (Or.inl ⟨by rfl, ?_⟩) ?_ ?_
      rotate_left
      · intro w'
        go_simp
        with_reducible rfl
      rotate_left
      · simp only [Act.put, List.setIfInBounds_toArray, List.set_cons_zero, List.set_cons_succ, i64_w, i32_w]
        rfl
      refine done_ (done_of HT_.out (by kernel_rfl)) ?_
      try go_wp2
      go_meet
      case rel => exact ⟨_, (false), (by first | rfl | (simp; done) | (simp [*]; done)), H', ⟨by first | omega | exact Nat.le_refl _⟩, ⟨by (with_reducible repeat (first | refine bN ?_ _ | refine bD ?_ | refine bA ?_ _)); exact BK237.out⟩, ⟨by (with_reducible repeat (first | refine bN ?_ _ | refine bD ?_ | refine bA ?_ _)); exact BK238.out⟩, ⟨by (with_reducible repeat (first | refine bN ?_ _ | refine bD ?_ | refine bA ?_ _)); exact BK252.out⟩, ⟨by repeat (first | (with_reducible first | exact HB.out | apply pA | apply pN | apply pD | refine pS ?_ GE237.out | refine pS ?_ GE238.out | refine pS ?_ GE252.out) | exact HB.out)⟩⟩
  case rest =>
    clear HC7
    try clear c1
    try clear c2
    try clear p2
    try clear c4
    try clear c9
    try clear c10
    try clear c14
    try clear c15
    try clear c18
    try clear c20
    try clear hcz11_0
    try clear hcz11_1
    try clear hcz11_2
    try clear hcz11_3
    try clear hcz11_4
    try clear hcz11_5
    try clear hcz11_6
    try clear hcz11_7
    try clear hcz16_0
    try clear hcz16_1
    try clear hcz16_10
    try clear hcz16_11
    try clear hcz16_12
    try clear hcz16_2
    try clear hcz16_3
    try clear hcz16_4
    try clear hcz16_5
    try clear hcz16_6
    try clear hcz16_7
    try clear hcz16_8
    try clear hcz16_9
    try clear hfz11_0
    try clear hfz11_1
    try clear hfz11_2
    try clear hfz11_3
    try clear hfz11_4
    try clear hfz11_5
    try clear hfz11_6
    try clear hfz11_7
    try clear hfz16_0
    try clear hfz16_1
    try clear hfz16_10
    try clear hfz16_11
    try clear hfz16_12
    try clear hfz16_2
    try clear hfz16_3
    try clear hfz16_4
    try clear hfz16_5
    try clear hfz16_6
    try clear hfz16_7
    try clear hfz16_8
    try clear hfz16_9
    obtain ⟨kq, x32_6, rfl, HA, HJ6, BK237, BK238, BK252, HB⟩ := hcut
    cases kq with
    | zero => exact absurd HA.out (by simp [hourglasslaw21_CallWaits.j0])
    | succ kj6 =>
      have H := HA.out
      clear HA
      simp only [hourglasslaw21_CallWaits.j0] at H
      by_cases c27 : x32_6 = true
      · subst c27
        have H1 : (some false) = some r := by rw [if_pos rfl] at H; exact H
        clear H
        have H := H1
        clear H1
        exact absurd (Option.some.inj H) (by rw [HRT.out]; decide)
      · replace c27 := Bool.eq_false_iff.mpr c27
        subst c27
        have H1 : ((hourglasslaw21_mine.f a1_0 a1_1 a1_2 a1_3 a1_4 a1_5 a1_6 a1_7).bind fun bt256 => ((call_Bad.f kj6 t239 t240 t241 t242 t243 t244 t245 t246 t247 t248 t249 t250 t251 a0_0 a0_1 a0_2 a0_3 a0_4 a0_5 a0_6 a0_7 a0_8 a0_9 a0_10 a0_11 a0_12 l0_13 bt256.1 bt256.2.1 bt256.2.2.1 bt256.2.2.2.1 bt256.2.2.2.2.1 bt256.2.2.2.2.2.1 bt256.2.2.2.2.2.2.1 bt256.2.2.2.2.2.2.2).bind fun bt264 => (if bt264.2.2.2.2.2.2.2.2.2.2.2.2.2 = 0 then ((hourglassref01_Clamp.f a2).bind fun t281 => ((hourglassref01_Clamp.f a1_5).bind fun t282 => (if t281 < t282 then (hourglasslaw21_CallWaits.j1 kj6 a2 a3 a4 true bt264.1 bt264.2.1 bt264.2.2.1 bt264.2.2.2.1 bt264.2.2.2.2.1 bt264.2.2.2.2.2.1 bt264.2.2.2.2.2.2.1 bt264.2.2.2.2.2.2.2.1 bt264.2.2.2.2.2.2.2.2.1 bt264.2.2.2.2.2.2.2.2.2.1 bt264.2.2.2.2.2.2.2.2.2.2.1 bt264.2.2.2.2.2.2.2.2.2.2.2.1 bt264.2.2.2.2.2.2.2.2.2.2.2.2.1) else (if a1_3 ≥ 0 then ((hourglassref01_Clamp.f a2).bind fun t283 => ((hourglassref01_Add.f a1_5 a1_3).bind fun t284 => (hourglasslaw21_CallWaits.j1 kj6 a2 a3 a4 (decide (t283 < t284)) bt264.1 bt264.2.1 bt264.2.2.1 bt264.2.2.2.1 bt264.2.2.2.2.1 bt264.2.2.2.2.2.1 bt264.2.2.2.2.2.2.1 bt264.2.2.2.2.2.2.2.1 bt264.2.2.2.2.2.2.2.2.1 bt264.2.2.2.2.2.2.2.2.2.1 bt264.2.2.2.2.2.2.2.2.2.2.1 bt264.2.2.2.2.2.2.2.2.2.2.2.1 bt264.2.2.2.2.2.2.2.2.2.2.2.2.1))) else (hourglasslaw21_CallWaits.j1 kj6 a2 a3 a4 false bt264.1 bt264.2.1 bt264.2.2.1 bt264.2.2.2.1 bt264.2.2.2.2.1 bt264.2.2.2.2.2.1 bt264.2.2.2.2.2.2.1 bt264.2.2.2.2.2.2.2.1 bt264.2.2.2.2.2.2.2.2.1 bt264.2.2.2.2.2.2.2.2.2.1 bt264.2.2.2.2.2.2.2.2.2.2.1 bt264.2.2.2.2.2.2.2.2.2.2.2.1 bt264.2.2.2.2.2.2.2.2.2.2.2.2.1))))) else (if bt264.2.2.2.2.2.2.1 = 3 then ((call_Rested.f bt264.1 bt264.2.1 bt264.2.2.1 bt264.2.2.2.1 bt264.2.2.2.2.1 bt264.2.2.2.2.2.1 bt264.2.2.2.2.2.2.1 bt264.2.2.2.2.2.2.2.1 bt264.2.2.2.2.2.2.2.2.1 bt264.2.2.2.2.2.2.2.2.2.1 bt264.2.2.2.2.2.2.2.2.2.2.1 bt264.2.2.2.2.2.2.2.2.2.2.2.1 bt264.2.2.2.2.2.2.2.2.2.2.2.2.1 a2 a4).bind fun t279 => (if t279 = true then (some false) else ((hourglasslaw21_awake.f kj6).bind fun t280 => (some t280)))) else (some false))))) = some r := by rw [if_neg (show ¬ (false = true) by decide)] at H; exact H
        clear H
        have H := H1
        clear H1
        replace H := Option.bind_eq_some_iff.mp H
        obtain ⟨⟨t256, t257, t258, t259, t260, t261, t262, t263⟩, A280, H⟩ := H
        replace H : ((call_Bad.f kj6 t239 t240 t241 t242 t243 t244 t245 t246 t247 t248 t249 t250 t251 a0_0 a0_1 a0_2 a0_3 a0_4 a0_5 a0_6 a0_7 a0_8 a0_9 a0_10 a0_11 a0_12 l0_13 t256 t257 t258 t259 t260 t261 t262 t263).bind fun bt264 => (if bt264.2.2.2.2.2.2.2.2.2.2.2.2.2 = 0 then ((hourglassref01_Clamp.f a2).bind fun t281 => ((hourglassref01_Clamp.f a1_5).bind fun t282 => (if t281 < t282 then (hourglasslaw21_CallWaits.j1 kj6 a2 a3 a4 true bt264.1 bt264.2.1 bt264.2.2.1 bt264.2.2.2.1 bt264.2.2.2.2.1 bt264.2.2.2.2.2.1 bt264.2.2.2.2.2.2.1 bt264.2.2.2.2.2.2.2.1 bt264.2.2.2.2.2.2.2.2.1 bt264.2.2.2.2.2.2.2.2.2.1 bt264.2.2.2.2.2.2.2.2.2.2.1 bt264.2.2.2.2.2.2.2.2.2.2.2.1 bt264.2.2.2.2.2.2.2.2.2.2.2.2.1) else (if a1_3 ≥ 0 then ((hourglassref01_Clamp.f a2).bind fun t283 => ((hourglassref01_Add.f a1_5 a1_3).bind fun t284 => (hourglasslaw21_CallWaits.j1 kj6 a2 a3 a4 (decide (t283 < t284)) bt264.1 bt264.2.1 bt264.2.2.1 bt264.2.2.2.1 bt264.2.2.2.2.1 bt264.2.2.2.2.2.1 bt264.2.2.2.2.2.2.1 bt264.2.2.2.2.2.2.2.1 bt264.2.2.2.2.2.2.2.2.1 bt264.2.2.2.2.2.2.2.2.2.1 bt264.2.2.2.2.2.2.2.2.2.2.1 bt264.2.2.2.2.2.2.2.2.2.2.2.1 bt264.2.2.2.2.2.2.2.2.2.2.2.2.1))) else (hourglasslaw21_CallWaits.j1 kj6 a2 a3 a4 false bt264.1 bt264.2.1 bt264.2.2.1 bt264.2.2.2.1 bt264.2.2.2.2.1 bt264.2.2.2.2.2.1 bt264.2.2.2.2.2.2.1 bt264.2.2.2.2.2.2.2.1 bt264.2.2.2.2.2.2.2.2.1 bt264.2.2.2.2.2.2.2.2.2.1 bt264.2.2.2.2.2.2.2.2.2.2.1 bt264.2.2.2.2.2.2.2.2.2.2.2.1 bt264.2.2.2.2.2.2.2.2.2.2.2.2.1))))) else (if bt264.2.2.2.2.2.2.1 = 3 then ((call_Rested.f bt264.1 bt264.2.1 bt264.2.2.1 bt264.2.2.2.1 bt264.2.2.2.2.1 bt264.2.2.2.2.2.1 bt264.2.2.2.2.2.2.1 bt264.2.2.2.2.2.2.2.1 bt264.2.2.2.2.2.2.2.2.1 bt264.2.2.2.2.2.2.2.2.2.1 bt264.2.2.2.2.2.2.2.2.2.2.1 bt264.2.2.2.2.2.2.2.2.2.2.2.1 bt264.2.2.2.2.2.2.2.2.2.2.2.2.1 a2 a4).bind fun t279 => (if t279 = true then (some false) else ((hourglasslaw21_awake.f kj6).bind fun t280 => (some t280)))) else (some false)))) = some r := H
        have A28 := Aside0.mk A280
        clear A280
        replace H := Option.bind_eq_some_iff.mp H
        obtain ⟨⟨t264, t265, t266, t267, t268, t269, t270, t271, t272, t273, t274, t275, t276, t277⟩, A290, H⟩ := H
        replace H : (if t277 = 0 then ((hourglassref01_Clamp.f a2).bind fun t281 => ((hourglassref01_Clamp.f a1_5).bind fun t282 => (if t281 < t282 then (hourglasslaw21_CallWaits.j1 kj6 a2 a3 a4 true t264 t265 t266 t267 t268 t269 t270 t271 t272 t273 t274 t275 t276) else (if a1_3 ≥ 0 then ((hourglassref01_Clamp.f a2).bind fun t283 => ((hourglassref01_Add.f a1_5 a1_3).bind fun t284 => (hourglasslaw21_CallWaits.j1 kj6 a2 a3 a4 (decide (t283 < t284)) t264 t265 t266 t267 t268 t269 t270 t271 t272 t273 t274 t275 t276))) else (hourglasslaw21_CallWaits.j1 kj6 a2 a3 a4 false t264 t265 t266 t267 t268 t269 t270 t271 t272 t273 t274 t275 t276))))) else (if t270 = 3 then ((call_Rested.f t264 t265 t266 t267 t268 t269 t270 t271 t272 t273 t274 t275 t276 a2 a4).bind fun t279 => (if t279 = true then (some false) else ((hourglasslaw21_awake.f kj6).bind fun t280 => (some t280)))) else (some false))) = some r := H
        have A29 := Aside0.mk A290
        clear A290
        by_cases c30 : t277 = 0
        · rw [if_pos c30] at H
          have c30b0 : (t277 == 0) = true := beq_iff_eq.mpr c30
          have c30b1 : (t277 != 0) = false := bne_eq_false_iff_eq.mpr c30
          clear c30
          have HC31 := Aside0.mk H
          clear H
          try go_wp2
          have n0_ := Aside0.mk (blk_drew BK237.out)
          have n1_ := Aside0.mk (blk_drew BK238.out)
          have n2_ := Aside0.mk (blk_drew BK252.out)
          have n3_ := Aside0.mk (below_drew1 HB.out)
          clear BK237
          clear BK238
          clear BK252
          clear HB
          have BK237 := n0_
          have BK238 := n1_
          have BK252 := n2_
          have HB := n3_
          clear n0_ n1_ n2_ n3_
          refine start_ (n := 11) (S := fun w' => w'.cell? ⟨gb252, 0, none⟩ = some (.int .i64 t239) ∧ w'.cell? ⟨gb252, 1, none⟩ = some (.int .i64 t240) ∧ w'.cell? ⟨gb252, 2, none⟩ = some (.int .i64 t241) ∧ w'.cell? ⟨gb252, 3, none⟩ = some (.int .i64 t242) ∧ w'.cell? ⟨gb252, 4, none⟩ = some (.int .i64 t243) ∧ w'.cell? ⟨gb252, 5, none⟩ = some (.int .i64 t244) ∧ w'.cell? ⟨gb252, 6, none⟩ = some (.int .i64 t245) ∧ w'.cell? ⟨gb252, 7, none⟩ = some (.int .i64 t246) ∧ w'.cell? ⟨gb252, 8, none⟩ = some (.int .i64 t247) ∧ w'.cell? ⟨gb252, 9, none⟩ = some (.bool t248) ∧ w'.cell? ⟨gb252, 10, none⟩ = some (.int .i64 t249) ∧ w'.cell? ⟨gb252, 11, none⟩ = some (.int .i64 t250) ∧ w'.cell? ⟨gb252, 12, none⟩ = some (.int .i64 t251) ∧ w'.cell? ⟨gb237, 0, none⟩ = some (.int .i64 a0_0) ∧ w'.cell? ⟨gb237, 1, none⟩ = some (.int .i64 a0_1) ∧ w'.cell? ⟨gb237, 2, none⟩ = some (.int .i64 a0_2) ∧ w'.cell? ⟨gb237, 3, none⟩ = some (.int .i64 a0_3) ∧ w'.cell? ⟨gb237, 4, none⟩ = some (.int .i64 a0_4) ∧ w'.cell? ⟨gb237, 5, none⟩ = some (.int .i64 a0_5) ∧ w'.cell? ⟨gb237, 6, none⟩ = some (.int .i64 a0_6) ∧ w'.cell? ⟨gb237, 7, none⟩ = some (.int .i64 a0_7) ∧ w'.cell? ⟨gb237, 8, none⟩ = some (.int .i64 a0_8) ∧ w'.cell? ⟨gb237, 9, none⟩ = some (.int .i64 a0_9) ∧ w'.cell? ⟨gb237, 10, none⟩ = some (.int .i64 a0_10) ∧ w'.cell? ⟨gb237, 11, none⟩ = some (.int .i64 a0_11) ∧ w'.cell? ⟨gb237, 12, none⟩ = some (.int .i64 a0_12) ∧ w'.cell? ⟨gb237, 13, none⟩ = some (.slice A0_13 l0_13.length c0_13) ∧ w'.cell? ⟨gb238, 0, none⟩ = some (.int .i64 a1_0) ∧ w'.cell? ⟨gb238, 1, none⟩ = some (.int .i64 a1_1) ∧ w'.cell? ⟨gb238, 2, none⟩ = some (.bool a1_2) ∧ w'.cell? ⟨gb238, 3, none⟩ = some (.int .i64 a1_3) ∧ w'.cell? ⟨gb238, 4, none⟩ = some (.int .i64 a1_4) ∧ w'.cell? ⟨gb238, 5, none⟩ = some (.int .i64 a1_5) ∧ w'.cell? ⟨gb238, 6, none⟩ = some (.int .i64 a1_6) ∧ w'.cell? ⟨gb238, 7, none⟩ = some (.int .i64 a1_7)) (ds := []) #[false, false, false, false, false, false, false, false, false, false, false] (by kernel_rfl) rfl rfl (br13 BK252.out (br14 BK237.out (bc8 BK238.out))) (fun hHeld => ?_); refine with_tabW hourglasslaw21_CallWaits.tab4 hourglasslaw21_CallWaits.bits4 (fun HT_ HW_ => ?_)
          generalize wc.drew = w32 at BK237 BK238 BK252 HB hHeld ⊢
          refine take_ (i := 0) (N := some 34) (v := ?_) (a' := ?_) #[true, false, false, false, false, false, false, false, false, false, false] rfl rfl (take_ofW HT_.out HW_.out (by kernel_rfl)) (fun _ _ _ h => h) (Or.inl ⟨by rfl, ?_⟩) hHeld ?_ ?_
          rotate_left
          · rintro w' ⟨s0, s1, s2, s3, s4, s5, s6, s7, s8, s9, s10, s11, s12, s13, s14, s15, s16, s17, s18, s19, s20, s21, s22, s23, s24, s25, s26, s27, s28, s29, s30, s31, s32, s33, s34⟩
            go_simp
            with_reducible rfl
          rotate_left
          · simp only [Act.put, List.setIfInBounds_toArray, List.set_cons_zero, List.set_cons_succ, i64_w, i32_w]
            rfl
          refine take_ (i := 1) (N := some 35) (v := ?_) (a' := ?_) #[true, true, false, false, false, false, false, false, false, false, false] rfl rfl (take_ofW HT_.out HW_.out (by kernel_rfl)) (fun _ _ _ h => h) (Or.inl ⟨by rfl, ?_⟩) hHeld ?_ ?_
          rotate_left
          · rintro w' ⟨s0, s1, s2, s3, s4, s5, s6, s7, s8, s9, s10, s11, s12, s13, s14, s15, s16, s17, s18, s19, s20, s21, s22, s23, s24, s25, s26, s27, s28, s29, s30, s31, s32, s33, s34⟩
            go_simp
            with_reducible rfl
          rotate_left
          · simp only [Act.put, List.setIfInBounds_toArray, List.set_cons_zero, List.set_cons_succ, i64_w, i32_w]
            rfl
          refine take_ (i := 2) (N := some 36) (v := ?_) (a' := ?_) #[true, true, true, false, false, false, false, false, false, false, false] rfl rfl (take_ofW HT_.out HW_.out (by kernel_rfl)) (fun _ _ _ h => h) (Or.inl ⟨by rfl, ?_⟩) hHeld ?_ ?_
          rotate_left
          · rintro w' ⟨s0, s1, s2, s3, s4, s5, s6, s7, s8, s9, s10, s11, s12, s13, s14, s15, s16, s17, s18, s19, s20, s21, s22, s23, s24, s25, s26, s27, s28, s29, s30, s31, s32, s33, s34⟩
            go_simp
            with_reducible rfl
          rotate_left
          · simp only [Act.put, List.setIfInBounds_toArray, List.set_cons_zero, List.set_cons_succ, i64_w, i32_w]
            rfl
          refine join_ (σ := Nat) 2 #[true, true, true, true, true, true, true, true, true, false, false] (fun s_ => [(37, .agg #[.int .i64 t256, .int .i64 t257, .bool t258, .int .i64 t259, .int .i64 t260, .int .i64 t261, .int .i64 t262, .int .i64 t263]), (38, .tuple #[.agg #[.int .i64 t264, .int .i64 t265, .int .i64 t266, .int .i64 t267, .int .i64 t268, .int .i64 t269, .int .i64 t270, .int .i64 t271, .int .i64 t272, .bool t273, .int .i64 t274, .int .i64 t275, .int .i64 t276], .int .i64 t277]), (12, .pointer (some ⟨s_, 0, none⟩)), (33, .tuple #[.agg #[.int .i64 t264, .int .i64 t265, .int .i64 t266, .int .i64 t267, .int .i64 t268, .int .i64 t269, .int .i64 t270, .int .i64 t271, .int .i64 t272, .bool t273, .int .i64 t274, .int .i64 t275, .int .i64 t276], .int .i64 t277]), (39, .agg #[.int .i64 t264, .int .i64 t265, .int .i64 t266, .int .i64 t267, .int .i64 t268, .int .i64 t269, .int .i64 t270, .int .i64 t271, .int .i64 t272, .bool t273, .int .i64 t274, .int .i64 t275, .int .i64 t276]), (40, .int .i64 t277)]) (fun s_ w' => (w'.cell? ⟨gb252, 0, none⟩ = some (.int .i64 t239) ∧ w'.cell? ⟨gb252, 1, none⟩ = some (.int .i64 t240) ∧ w'.cell? ⟨gb252, 2, none⟩ = some (.int .i64 t241) ∧ w'.cell? ⟨gb252, 3, none⟩ = some (.int .i64 t242) ∧ w'.cell? ⟨gb252, 4, none⟩ = some (.int .i64 t243) ∧ w'.cell? ⟨gb252, 5, none⟩ = some (.int .i64 t244) ∧ w'.cell? ⟨gb252, 6, none⟩ = some (.int .i64 t245) ∧ w'.cell? ⟨gb252, 7, none⟩ = some (.int .i64 t246) ∧ w'.cell? ⟨gb252, 8, none⟩ = some (.int .i64 t247) ∧ w'.cell? ⟨gb252, 9, none⟩ = some (.bool t248) ∧ w'.cell? ⟨gb252, 10, none⟩ = some (.int .i64 t249) ∧ w'.cell? ⟨gb252, 11, none⟩ = some (.int .i64 t250) ∧ w'.cell? ⟨gb252, 12, none⟩ = some (.int .i64 t251) ∧ w'.cell? ⟨gb237, 0, none⟩ = some (.int .i64 a0_0) ∧ w'.cell? ⟨gb237, 1, none⟩ = some (.int .i64 a0_1) ∧ w'.cell? ⟨gb237, 2, none⟩ = some (.int .i64 a0_2) ∧ w'.cell? ⟨gb237, 3, none⟩ = some (.int .i64 a0_3) ∧ w'.cell? ⟨gb237, 4, none⟩ = some (.int .i64 a0_4) ∧ w'.cell? ⟨gb237, 5, none⟩ = some (.int .i64 a0_5) ∧ w'.cell? ⟨gb237, 6, none⟩ = some (.int .i64 a0_6) ∧ w'.cell? ⟨gb237, 7, none⟩ = some (.int .i64 a0_7) ∧ w'.cell? ⟨gb237, 8, none⟩ = some (.int .i64 a0_8) ∧ w'.cell? ⟨gb237, 9, none⟩ = some (.int .i64 a0_9) ∧ w'.cell? ⟨gb237, 10, none⟩ = some (.int .i64 a0_10) ∧ w'.cell? ⟨gb237, 11, none⟩ = some (.int .i64 a0_11) ∧ w'.cell? ⟨gb237, 12, none⟩ = some (.int .i64 a0_12) ∧ w'.cell? ⟨gb237, 13, none⟩ = some (.slice A0_13 l0_13.length c0_13) ∧ w'.cell? ⟨gb238, 0, none⟩ = some (.int .i64 a1_0) ∧ w'.cell? ⟨gb238, 1, none⟩ = some (.int .i64 a1_1) ∧ w'.cell? ⟨gb238, 2, none⟩ = some (.bool a1_2) ∧ w'.cell? ⟨gb238, 3, none⟩ = some (.int .i64 a1_3) ∧ w'.cell? ⟨gb238, 4, none⟩ = some (.int .i64 a1_4) ∧ w'.cell? ⟨gb238, 5, none⟩ = some (.int .i64 a1_5) ∧ w'.cell? ⟨gb238, 6, none⟩ = some (.int .i64 a1_6) ∧ w'.cell? ⟨gb238, 7, none⟩ = some (.int .i64 a1_7)) ∧ (w'.heap[gb237]? = some (.cells #[.int .i64 a0_0, .int .i64 a0_1, .int .i64 a0_2, .int .i64 a0_3, .int .i64 a0_4, .int .i64 a0_5, .int .i64 a0_6, .int .i64 a0_7, .int .i64 a0_8, .int .i64 a0_9, .int .i64 a0_10, .int .i64 a0_11, .int .i64 a0_12, .slice A0_13 l0_13.length c0_13] 72 (0, 0))) ∧ (w'.heap[gb238]? = some (.cells #[.int .i64 a1_0, .int .i64 a1_1, .bool a1_2, .int .i64 a1_3, .int .i64 a1_4, .int .i64 a1_5, .int .i64 a1_6, .int .i64 a1_7] 77 (0, 0))) ∧ (w'.heap[gb252]? = some (.cells #[.int .i64 t239, .int .i64 t240, .int .i64 t241, .int .i64 t242, .int .i64 t243, .int .i64 t244, .int .i64 t245, .int .i64 t246, .int .i64 t247, .bool t248, .int .i64 t249, .int .i64 t250, .int .i64 t251] 58 (0, 0))) ∧ (w'.heap[s_]? = some (.cells #[.int .i64 0, .int .i64 0, .int .i64 0, .int .i64 0, .int .i64 0, .int .i64 0, .int .i64 0, .int .i64 0, .int .i64 0, .bool false, .int .i64 0, .int .i64 0, .int .i64 0] 58 (0, 0))) ∧ (w.heap.size ≤ s_) ∧ (w.heap.size ≤ s_) ∧ (gb237 ≠ s_) ∧ (s_ ≠ gb237) ∧ (gb238 ≠ s_) ∧ (s_ ≠ gb238) ∧ (gb252 ≠ s_) ∧ (s_ ≠ gb252) ∧ (Below w.heap.size w w')) ?_ ?_
          rotate_left
          · intro hCont
            refine two_ (i := 3) (j := 8) (Ni := some 37) (Nj := some 12) #[true, true, true, true, false, false, false, false, false, false, false] #[true, true, true, false, false, false, false, false, true, false, false] rfl rfl rfl rfl (two_of HT_.out (by kernel_rfl)) (by decide) (by decide) (fun K hK => ?_) (fun K hK => ?_)
            · skip
              refine goes_ Try.func44 (by kernel_rfl) rfl #[.agg #[.int .i64 a1_0, .int .i64 a1_1, .bool a1_2, .int .i64 a1_3, .int .i64 a1_4, .int .i64 a1_5, .int .i64 a1_6, .int .i64 a1_7]] (by rfl) rfl rfl (by (try simp only [List.map_toArray, List.map_cons, List.map_nil]); first | done | rfl | (simp only [List.length_drop, List.length_take]; rfl)) ?_
              with_reducible refine (hourglasslaw21_mine.calls a1_0 a1_1 a1_2 a1_3 a1_4 a1_5 a1_6 a1_7 t256 t257 t258 t259 t260 t261 t262 t263 _ A28.out).mono ?_
              rintro e w33 ⟨rfl, hb⟩
              refine ⟨_, rfl, ?_⟩
              have n0_ := Aside0.mk (blk_below (g := gb237) (by (with_reducible repeat (first | refine bN ?_ _ | refine bD ?_ | refine bA ?_ _)); exact BK237.out) hb)
              have n1_ := Aside0.mk (blk_below (g := gb238) (by (with_reducible repeat (first | refine bN ?_ _ | refine bD ?_ | refine bA ?_ _)); exact BK238.out) hb)
              have n2_ := Aside0.mk (blk_below (g := gb252) (by (with_reducible repeat (first | refine bN ?_ _ | refine bD ?_ | refine bA ?_ _)); exact BK252.out) hb)
              have n3_ := Aside0.mk (below_step (by repeat (first | (with_reducible first | exact HB.out | apply pA | apply pN | apply pD | refine pS ?_ GE237.out | refine pS ?_ GE238.out | refine pS ?_ GE252.out) | exact HB.out)) hb)
              clear BK237
              clear BK238
              clear BK252
              clear HB
              have BK237 := n0_
              have BK238 := n1_
              have BK252 := n2_
              have HB := n3_
              clear n0_ n1_ n2_ n3_
              (try clear hb)
              (try clear hb2)
              (try clear hk)
              (try clear hi)
              refine hK.out _ _ (br13 BK252.out (br14 BK237.out (bc8 BK238.out))) (fun hHeld => ?_)
              clear hK K
              refine norm_ (a' := ?_) ?_ ?_
              rotate_left
              · show Act.put _ (some 37) _ = _
                simp only [Act.put, List.setIfInBounds_toArray, List.set_cons_zero, List.set_cons_succ, i64_w, i32_w]
                rfl
              refine two_ (i := 4) (j := 8) (Ni := some 38) (Nj := some 12) #[true, true, true, true, true, false, false, false, false, false, false] #[true, true, true, true, false, false, false, false, true, false, false] rfl rfl rfl rfl (two_of HT_.out (by kernel_rfl)) (by decide) (by decide) (fun K hK => ?_) (fun K hK => ?_)
              · skip
                refine goes_ Try.func43 (by kernel_rfl) rfl #[.agg #[.int .i64 t239, .int .i64 t240, .int .i64 t241, .int .i64 t242, .int .i64 t243, .int .i64 t244, .int .i64 t245, .int .i64 t246, .int .i64 t247, .bool t248, .int .i64 t249, .int .i64 t250, .int .i64 t251], .agg #[.int .i64 a0_0, .int .i64 a0_1, .int .i64 a0_2, .int .i64 a0_3, .int .i64 a0_4, .int .i64 a0_5, .int .i64 a0_6, .int .i64 a0_7, .int .i64 a0_8, .int .i64 a0_9, .int .i64 a0_10, .int .i64 a0_11, .int .i64 a0_12, .slice A0_13 l0_13.length c0_13], .agg #[.int .i64 t256, .int .i64 t257, .bool t258, .int .i64 t259, .int .i64 t260, .int .i64 t261, .int .i64 t262, .int .i64 t263]] (by rfl) rfl rfl (by (try simp only [List.map_toArray, List.map_cons, List.map_nil]); first | done | rfl | (simp only [List.length_drop, List.length_take]; rfl)) ?_
                with_reducible refine (call_Bad.calls kj6 t239 t240 t241 t242 t243 t244 t245 t246 t247 t248 t249 t250 t251 a0_0 a0_1 a0_2 a0_3 a0_4 a0_5 a0_6 a0_7 a0_8 a0_9 a0_10 a0_11 a0_12 _ _ l0_13 t256 t257 t258 t259 t260 t261 t262 t263 t264 t265 t266 t267 t268 t269 t270 t271 t272 t273 t274 t275 t276 t277 _ ?side1 ?side2 A29.out).mono ?_
                (case side1 => repeat (first | exact (Kd.C_below HR0_13.out HB.out) | (with_reducible refine Kd.C_alloc ?_ _) | (with_reducible refine Kd.C_drewN ?_ _) | (with_reducible refine Kd.C_drew ?_)))
                (case side2 => exact HC0_13.out)
                rintro e w34 ⟨rfl, hb⟩
                refine ⟨_, rfl, ?_⟩
                have n0_ := Aside0.mk (blk_below (g := gb237) (by (with_reducible repeat (first | refine bN ?_ _ | refine bD ?_ | refine bA ?_ _)); exact BK237.out) hb)
                have n1_ := Aside0.mk (blk_below (g := gb238) (by (with_reducible repeat (first | refine bN ?_ _ | refine bD ?_ | refine bA ?_ _)); exact BK238.out) hb)
                have n2_ := Aside0.mk (blk_below (g := gb252) (by (with_reducible repeat (first | refine bN ?_ _ | refine bD ?_ | refine bA ?_ _)); exact BK252.out) hb)
                have n3_ := Aside0.mk (below_step (by repeat (first | (with_reducible first | exact HB.out | apply pA | apply pN | apply pD | refine pS ?_ GE237.out | refine pS ?_ GE238.out | refine pS ?_ GE252.out) | exact HB.out)) hb)
                clear BK237
                clear BK238
                clear BK252
                clear HB
                have BK237 := n0_
                have BK238 := n1_
                have BK252 := n2_
                have HB := n3_
                clear n0_ n1_ n2_ n3_
                (try clear hb)
                (try clear hb2)
                (try clear hk)
                (try clear hi)
                refine hK.out _ _ (br13 BK252.out (br14 BK237.out (bc8 BK238.out))) (fun hHeld => ?_)
                clear hK K
                refine norm_ (a' := ?_) ?_ ?_
                rotate_left
                · show Act.put _ (some 38) _ = _
                  simp only [Act.put, List.setIfInBounds_toArray, List.set_cons_zero, List.set_cons_succ, i64_w, i32_w]
                  rfl
                refine pure_ (i := 5) (N := some 33) (v := ?_) (a' := ?_) #[true, true, true, true, true, true, false, false, false, false, false] rfl rfl (any_of HT_.out (by kernel_rfl)) (fun _ _ _ h => h) (Or.inl ⟨by rfl, ?_⟩) ?_ ?_
                rotate_left
                · intro w'
                  go_simp
                  with_reducible rfl
                rotate_left
                · simp only [Act.put, List.setIfInBounds_toArray, List.set_cons_zero, List.set_cons_succ, i64_w, i32_w]
                  rfl
                refine pure_ (i := 6) (N := some 39) (v := ?_) (a' := ?_) #[true, true, true, true, true, true, true, false, false, false, false] rfl rfl (any_of HT_.out (by kernel_rfl)) (fun _ _ _ h => h) (Or.inl ⟨by rfl, ?_⟩) ?_ ?_
                rotate_left
                · intro w'
                  go_simp
                  with_reducible rfl
                rotate_left
                · simp only [Act.put, List.setIfInBounds_toArray, List.set_cons_zero, List.set_cons_succ, i64_w, i32_w]
                  rfl
                refine pure_ (i := 7) (N := some 40) (v := ?_) (a' := ?_) #[true, true, true, true, true, true, true, true, false, false, false] rfl rfl (any_of HT_.out (by kernel_rfl)) (fun _ _ _ h => h) (Or.inl ⟨by rfl, ?_⟩) ?_ ?_
                rotate_left
                · intro w'
                  go_simp
                  with_reducible rfl
                rotate_left
                · simp only [Act.put, List.setIfInBounds_toArray, List.set_cons_zero, List.set_cons_succ, i64_w, i32_w]
                  rfl
                refine one_ (i := 8) (N := some 12) #[true, true, true, true, true, true, true, true, true, false, false] rfl rfl (one_of HT_.out (by kernel_rfl)) (by decide) (fun K hK => ?_)
                refine box_step ?hg (N := 12) ?hd (cs := #[.int .i64 0, .int .i64 0, .int .i64 0, .int .i64 0, .int .i64 0, .int .i64 0, .int .i64 0, .int .i64 0, .int .i64 0, .bool false, .int .i64 0, .int .i64 0, .int .i64 0]) (t := 58) ?hr ?_; (case hd => rfl); (case hg => rfl); (case hr => first | (go_simp; done) | (go_simp; rfl))
                intro gb278 hg w35 hbox hb
                have n0_ := Aside0.mk (blk_below (g := gb237) (by (with_reducible repeat (first | refine bN ?_ _ | refine bD ?_ | refine bA ?_ _)); exact BK237.out) hb)
                have n1_ := Aside0.mk (blk_below (g := gb238) (by (with_reducible repeat (first | refine bN ?_ _ | refine bD ?_ | refine bA ?_ _)); exact BK238.out) hb)
                have n2_ := Aside0.mk (blk_below (g := gb252) (by (with_reducible repeat (first | refine bN ?_ _ | refine bD ?_ | refine bA ?_ _)); exact BK252.out) hb)
                have n3_ := Aside0.mk (below_step (by repeat (first | (with_reducible first | exact HB.out | apply pA | apply pN | apply pD | refine pS ?_ GE237.out | refine pS ?_ GE238.out | refine pS ?_ GE252.out) | exact HB.out)) hb)
                have n4_ := Aside0.mk (hbox)
                have n5_ := Aside0.mk ((by rw [hg]; exact (below_size (by repeat (first | (with_reducible first | exact HB.out | apply pA | apply pN | apply pD | refine pS ?_ GE237.out | refine pS ?_ GE238.out | refine pS ?_ GE252.out) | exact HB.out))) : w.heap.size ≤ gb278))
                have n6_ := Aside0.mk ((by rw [hg]; exact (below_size (by repeat (first | (with_reducible first | exact HB.out | apply pA | apply pN | apply pD | refine pS ?_ GE237.out | refine pS ?_ GE238.out | refine pS ?_ GE252.out) | exact HB.out))) : w.heap.size ≤ gb278))
                have n7_ := Aside0.mk ((by rw [hg]; exact Nat.ne_of_lt (blk_lt (g := gb237) (by (with_reducible repeat (first | refine bN ?_ _ | refine bD ?_ | refine bA ?_ _)); exact BK237.out)) : gb237 ≠ gb278))
                have n8_ := Aside0.mk ((by rw [hg]; exact Nat.ne_of_gt (blk_lt (g := gb237) (by (with_reducible repeat (first | refine bN ?_ _ | refine bD ?_ | refine bA ?_ _)); exact BK237.out)) : gb278 ≠ gb237))
                have n9_ := Aside0.mk ((by rw [hg]; exact Nat.ne_of_lt (blk_lt (g := gb238) (by (with_reducible repeat (first | refine bN ?_ _ | refine bD ?_ | refine bA ?_ _)); exact BK238.out)) : gb238 ≠ gb278))
                have n10_ := Aside0.mk ((by rw [hg]; exact Nat.ne_of_gt (blk_lt (g := gb238) (by (with_reducible repeat (first | refine bN ?_ _ | refine bD ?_ | refine bA ?_ _)); exact BK238.out)) : gb278 ≠ gb238))
                have n11_ := Aside0.mk ((by rw [hg]; exact Nat.ne_of_lt (blk_lt (g := gb252) (by (with_reducible repeat (first | refine bN ?_ _ | refine bD ?_ | refine bA ?_ _)); exact BK252.out)) : gb252 ≠ gb278))
                have n12_ := Aside0.mk ((by rw [hg]; exact Nat.ne_of_gt (blk_lt (g := gb252) (by (with_reducible repeat (first | refine bN ?_ _ | refine bD ?_ | refine bA ?_ _)); exact BK252.out)) : gb278 ≠ gb252))
                clear BK237
                clear BK238
                clear BK252
                clear HB
                have BK237 := n0_
                have BK238 := n1_
                have BK252 := n2_
                have HB := n3_
                have BK278 := n4_
                have GW278 := n5_
                have GE278 := n6_
                have NB237_278 := n7_
                have NB278_237 := n8_
                have NB238_278 := n9_
                have NB278_238 := n10_
                have NB252_278 := n11_
                have NB278_252 := n12_
                clear n0_ n1_ n2_ n3_ n4_ n5_ n6_ n7_ n8_ n9_ n10_ n11_ n12_
                clear hb hbox hg
                refine hK.out _ _ (br13 BK252.out (br14 BK237.out (bc8 BK238.out))) (fun hHeld => ?_)
                clear hK K
                refine norm_ (a' := ?_) ?_ ?_
                rotate_left
                · show Act.put _ (some 12) _ = _
                  simp only [Act.put, List.setIfInBounds_toArray, List.set_cons_zero, List.set_cons_succ, i64_w, i32_w]
                  rfl
                exact norm_ (by simp only [putAll, Act.put, List.setIfInBounds_toArray, List.set_cons_zero, List.set_cons_succ]) (hCont (gb278) _ ⟨hHeld, (by (with_reducible repeat (first | refine bN ?_ _ | refine bD ?_ | refine bA ?_ _)); exact BK237.out), (by (with_reducible repeat (first | refine bN ?_ _ | refine bD ?_ | refine bA ?_ _)); exact BK238.out), (by (with_reducible repeat (first | refine bN ?_ _ | refine bD ?_ | refine bA ?_ _)); exact BK252.out), (by (with_reducible repeat (first | refine bN ?_ _ | refine bD ?_ | refine bA ?_ _)); exact BK278.out), GW278.out, GE278.out, NB237_278.out, NB278_237.out, NB238_278.out, NB278_238.out, NB252_278.out, NB278_252.out, (by repeat (first | (with_reducible first | exact HB.out | apply pA | apply pN | apply pD | refine pS ?_ GE237.out | refine pS ?_ GE238.out | refine pS ?_ GE252.out | refine pS ?_ GE278.out) | exact HB.out))⟩)
              · skip
                refine box_step ?hg (N := 12) ?hd (cs := #[.int .i64 0, .int .i64 0, .int .i64 0, .int .i64 0, .int .i64 0, .int .i64 0, .int .i64 0, .int .i64 0, .int .i64 0, .bool false, .int .i64 0, .int .i64 0, .int .i64 0]) (t := 58) ?hr ?_; (case hd => rfl); (case hg => rfl); (case hr => first | (go_simp; done) | (go_simp; rfl))
                intro gb278 hg w34 hbox hb
                have n0_ := Aside0.mk (blk_below (g := gb237) (by (with_reducible repeat (first | refine bN ?_ _ | refine bD ?_ | refine bA ?_ _)); exact BK237.out) hb)
                have n1_ := Aside0.mk (blk_below (g := gb238) (by (with_reducible repeat (first | refine bN ?_ _ | refine bD ?_ | refine bA ?_ _)); exact BK238.out) hb)
                have n2_ := Aside0.mk (blk_below (g := gb252) (by (with_reducible repeat (first | refine bN ?_ _ | refine bD ?_ | refine bA ?_ _)); exact BK252.out) hb)
                have n3_ := Aside0.mk (below_step (by repeat (first | (with_reducible first | exact HB.out | apply pA | apply pN | apply pD | refine pS ?_ GE237.out | refine pS ?_ GE238.out | refine pS ?_ GE252.out) | exact HB.out)) hb)
                have n4_ := Aside0.mk (hbox)
                have n5_ := Aside0.mk ((by rw [hg]; exact (below_size (by repeat (first | (with_reducible first | exact HB.out | apply pA | apply pN | apply pD | refine pS ?_ GE237.out | refine pS ?_ GE238.out | refine pS ?_ GE252.out) | exact HB.out))) : w.heap.size ≤ gb278))
                have n6_ := Aside0.mk ((by rw [hg]; exact (below_size (by repeat (first | (with_reducible first | exact HB.out | apply pA | apply pN | apply pD | refine pS ?_ GE237.out | refine pS ?_ GE238.out | refine pS ?_ GE252.out) | exact HB.out))) : w.heap.size ≤ gb278))
                have n7_ := Aside0.mk ((by rw [hg]; exact Nat.ne_of_lt (blk_lt (g := gb237) (by (with_reducible repeat (first | refine bN ?_ _ | refine bD ?_ | refine bA ?_ _)); exact BK237.out)) : gb237 ≠ gb278))
                have n8_ := Aside0.mk ((by rw [hg]; exact Nat.ne_of_gt (blk_lt (g := gb237) (by (with_reducible repeat (first | refine bN ?_ _ | refine bD ?_ | refine bA ?_ _)); exact BK237.out)) : gb278 ≠ gb237))
                have n9_ := Aside0.mk ((by rw [hg]; exact Nat.ne_of_lt (blk_lt (g := gb238) (by (with_reducible repeat (first | refine bN ?_ _ | refine bD ?_ | refine bA ?_ _)); exact BK238.out)) : gb238 ≠ gb278))
                have n10_ := Aside0.mk ((by rw [hg]; exact Nat.ne_of_gt (blk_lt (g := gb238) (by (with_reducible repeat (first | refine bN ?_ _ | refine bD ?_ | refine bA ?_ _)); exact BK238.out)) : gb278 ≠ gb238))
                have n11_ := Aside0.mk ((by rw [hg]; exact Nat.ne_of_lt (blk_lt (g := gb252) (by (with_reducible repeat (first | refine bN ?_ _ | refine bD ?_ | refine bA ?_ _)); exact BK252.out)) : gb252 ≠ gb278))
                have n12_ := Aside0.mk ((by rw [hg]; exact Nat.ne_of_gt (blk_lt (g := gb252) (by (with_reducible repeat (first | refine bN ?_ _ | refine bD ?_ | refine bA ?_ _)); exact BK252.out)) : gb278 ≠ gb252))
                clear BK237
                clear BK238
                clear BK252
                clear HB
                have BK237 := n0_
                have BK238 := n1_
                have BK252 := n2_
                have HB := n3_
                have BK278 := n4_
                have GW278 := n5_
                have GE278 := n6_
                have NB237_278 := n7_
                have NB278_237 := n8_
                have NB238_278 := n9_
                have NB278_238 := n10_
                have NB252_278 := n11_
                have NB278_252 := n12_
                clear n0_ n1_ n2_ n3_ n4_ n5_ n6_ n7_ n8_ n9_ n10_ n11_ n12_
                clear hb hbox hg
                refine hK.out _ _ (br13 BK252.out (br14 BK237.out (bc8 BK238.out))) (fun hHeld => ?_)
                clear hK K
                refine norm_ (a' := ?_) ?_ ?_
                rotate_left
                · show Act.put _ (some 12) _ = _
                  simp only [Act.put, List.setIfInBounds_toArray, List.set_cons_zero, List.set_cons_succ, i64_w, i32_w]
                  rfl
                refine one_ (i := 4) (N := some 38) #[true, true, true, true, true, false, false, false, true, false, false] rfl rfl (one_of HT_.out (by kernel_rfl)) (by decide) (fun K hK => ?_)
                refine goes_ Try.func43 (by kernel_rfl) rfl #[.agg #[.int .i64 t239, .int .i64 t240, .int .i64 t241, .int .i64 t242, .int .i64 t243, .int .i64 t244, .int .i64 t245, .int .i64 t246, .int .i64 t247, .bool t248, .int .i64 t249, .int .i64 t250, .int .i64 t251], .agg #[.int .i64 a0_0, .int .i64 a0_1, .int .i64 a0_2, .int .i64 a0_3, .int .i64 a0_4, .int .i64 a0_5, .int .i64 a0_6, .int .i64 a0_7, .int .i64 a0_8, .int .i64 a0_9, .int .i64 a0_10, .int .i64 a0_11, .int .i64 a0_12, .slice A0_13 l0_13.length c0_13], .agg #[.int .i64 t256, .int .i64 t257, .bool t258, .int .i64 t259, .int .i64 t260, .int .i64 t261, .int .i64 t262, .int .i64 t263]] (by rfl) rfl rfl (by (try simp only [List.map_toArray, List.map_cons, List.map_nil]); first | done | rfl | (simp only [List.length_drop, List.length_take]; rfl)) ?_
                with_reducible refine (call_Bad.calls kj6 t239 t240 t241 t242 t243 t244 t245 t246 t247 t248 t249 t250 t251 a0_0 a0_1 a0_2 a0_3 a0_4 a0_5 a0_6 a0_7 a0_8 a0_9 a0_10 a0_11 a0_12 _ _ l0_13 t256 t257 t258 t259 t260 t261 t262 t263 t264 t265 t266 t267 t268 t269 t270 t271 t272 t273 t274 t275 t276 t277 _ ?side1 ?side2 A29.out).mono ?_
                (case side1 => repeat (first | exact (Kd.C_below HR0_13.out HB.out) | (with_reducible refine Kd.C_alloc ?_ _) | (with_reducible refine Kd.C_drewN ?_ _) | (with_reducible refine Kd.C_drew ?_)))
                (case side2 => exact HC0_13.out)
                rintro e w35 ⟨rfl, hb⟩
                refine ⟨_, rfl, ?_⟩
                have n0_ := Aside0.mk (blk_below (g := gb237) (by (with_reducible repeat (first | refine bN ?_ _ | refine bD ?_ | refine bA ?_ _)); exact BK237.out) hb)
                have n1_ := Aside0.mk (blk_below (g := gb238) (by (with_reducible repeat (first | refine bN ?_ _ | refine bD ?_ | refine bA ?_ _)); exact BK238.out) hb)
                have n2_ := Aside0.mk (blk_below (g := gb252) (by (with_reducible repeat (first | refine bN ?_ _ | refine bD ?_ | refine bA ?_ _)); exact BK252.out) hb)
                have n3_ := Aside0.mk (blk_below (g := gb278) (by (with_reducible repeat (first | refine bN ?_ _ | refine bD ?_ | refine bA ?_ _)); exact BK278.out) hb)
                have n4_ := Aside0.mk (below_step (by repeat (first | (with_reducible first | exact HB.out | apply pA | apply pN | apply pD | refine pS ?_ GE237.out | refine pS ?_ GE238.out | refine pS ?_ GE252.out | refine pS ?_ GE278.out) | exact HB.out)) hb)
                clear BK237
                clear BK238
                clear BK252
                clear BK278
                clear HB
                have BK237 := n0_
                have BK238 := n1_
                have BK252 := n2_
                have BK278 := n3_
                have HB := n4_
                clear n0_ n1_ n2_ n3_ n4_
                (try clear hb)
                (try clear hb2)
                (try clear hk)
                (try clear hi)
                refine hK.out _ _ (br13 BK252.out (br14 BK237.out (bc8 BK238.out))) (fun hHeld => ?_)
                clear hK K
                refine norm_ (a' := ?_) ?_ ?_
                rotate_left
                · show Act.put _ (some 38) _ = _
                  simp only [Act.put, List.setIfInBounds_toArray, List.set_cons_zero, List.set_cons_succ, i64_w, i32_w]
                  rfl
                refine pure_ (i := 5) (N := some 33) (v := ?_) (a' := ?_) #[true, true, true, true, true, true, false, false, true, false, false] rfl rfl (any_of HT_.out (by kernel_rfl)) (fun _ _ _ h => h) (Or.inl ⟨by rfl, ?_⟩) ?_ ?_
                rotate_left
                · intro w'
                  go_simp
                  with_reducible rfl
                rotate_left
                · simp only [Act.put, List.setIfInBounds_toArray, List.set_cons_zero, List.set_cons_succ, i64_w, i32_w]
                  rfl
                refine pure_ (i := 6) (N := some 39) (v := ?_) (a' := ?_) #[true, true, true, true, true, true, true, false, true, false, false] rfl rfl (any_of HT_.out (by kernel_rfl)) (fun _ _ _ h => h) (Or.inl ⟨by rfl, ?_⟩) ?_ ?_
                rotate_left
                · intro w'
                  go_simp
                  with_reducible rfl
                rotate_left
                · simp only [Act.put, List.setIfInBounds_toArray, List.set_cons_zero, List.set_cons_succ, i64_w, i32_w]
                  rfl
                refine pure_ (i := 7) (N := some 40) (v := ?_) (a' := ?_) #[true, true, true, true, true, true, true, true, true, false, false] rfl rfl (any_of HT_.out (by kernel_rfl)) (fun _ _ _ h => h) (Or.inl ⟨by rfl, ?_⟩) ?_ ?_
                rotate_left
                · intro w'
                  go_simp
                  with_reducible rfl
                rotate_left
                · simp only [Act.put, List.setIfInBounds_toArray, List.set_cons_zero, List.set_cons_succ, i64_w, i32_w]
                  rfl
                exact norm_ (by simp only [putAll, Act.put, List.setIfInBounds_toArray, List.set_cons_zero, List.set_cons_succ]) (hCont (gb278) _ ⟨hHeld, (by (with_reducible repeat (first | refine bN ?_ _ | refine bD ?_ | refine bA ?_ _)); exact BK237.out), (by (with_reducible repeat (first | refine bN ?_ _ | refine bD ?_ | refine bA ?_ _)); exact BK238.out), (by (with_reducible repeat (first | refine bN ?_ _ | refine bD ?_ | refine bA ?_ _)); exact BK252.out), (by (with_reducible repeat (first | refine bN ?_ _ | refine bD ?_ | refine bA ?_ _)); exact BK278.out), GW278.out, GE278.out, NB237_278.out, NB278_237.out, NB238_278.out, NB278_238.out, NB252_278.out, NB278_252.out, (by repeat (first | (with_reducible first | exact HB.out | apply pA | apply pN | apply pD | refine pS ?_ GE237.out | refine pS ?_ GE238.out | refine pS ?_ GE252.out | refine pS ?_ GE278.out) | exact HB.out))⟩)
            · skip
              refine box_step ?hg (N := 12) ?hd (cs := #[.int .i64 0, .int .i64 0, .int .i64 0, .int .i64 0, .int .i64 0, .int .i64 0, .int .i64 0, .int .i64 0, .int .i64 0, .bool false, .int .i64 0, .int .i64 0, .int .i64 0]) (t := 58) ?hr ?_; (case hd => rfl); (case hg => rfl); (case hr => first | (go_simp; done) | (go_simp; rfl))
              intro gb278 hg w33 hbox hb
              have n0_ := Aside0.mk (blk_below (g := gb237) (by (with_reducible repeat (first | refine bN ?_ _ | refine bD ?_ | refine bA ?_ _)); exact BK237.out) hb)
              have n1_ := Aside0.mk (blk_below (g := gb238) (by (with_reducible repeat (first | refine bN ?_ _ | refine bD ?_ | refine bA ?_ _)); exact BK238.out) hb)
              have n2_ := Aside0.mk (blk_below (g := gb252) (by (with_reducible repeat (first | refine bN ?_ _ | refine bD ?_ | refine bA ?_ _)); exact BK252.out) hb)
              have n3_ := Aside0.mk (below_step (by repeat (first | (with_reducible first | exact HB.out | apply pA | apply pN | apply pD | refine pS ?_ GE237.out | refine pS ?_ GE238.out | refine pS ?_ GE252.out) | exact HB.out)) hb)
              have n4_ := Aside0.mk (hbox)
              have n5_ := Aside0.mk ((by rw [hg]; exact (below_size (by repeat (first | (with_reducible first | exact HB.out | apply pA | apply pN | apply pD | refine pS ?_ GE237.out | refine pS ?_ GE238.out | refine pS ?_ GE252.out) | exact HB.out))) : w.heap.size ≤ gb278))
              have n6_ := Aside0.mk ((by rw [hg]; exact (below_size (by repeat (first | (with_reducible first | exact HB.out | apply pA | apply pN | apply pD | refine pS ?_ GE237.out | refine pS ?_ GE238.out | refine pS ?_ GE252.out) | exact HB.out))) : w.heap.size ≤ gb278))
              have n7_ := Aside0.mk ((by rw [hg]; exact Nat.ne_of_lt (blk_lt (g := gb237) (by (with_reducible repeat (first | refine bN ?_ _ | refine bD ?_ | refine bA ?_ _)); exact BK237.out)) : gb237 ≠ gb278))
              have n8_ := Aside0.mk ((by rw [hg]; exact Nat.ne_of_gt (blk_lt (g := gb237) (by (with_reducible repeat (first | refine bN ?_ _ | refine bD ?_ | refine bA ?_ _)); exact BK237.out)) : gb278 ≠ gb237))
              have n9_ := Aside0.mk ((by rw [hg]; exact Nat.ne_of_lt (blk_lt (g := gb238) (by (with_reducible repeat (first | refine bN ?_ _ | refine bD ?_ | refine bA ?_ _)); exact BK238.out)) : gb238 ≠ gb278))
              have n10_ := Aside0.mk ((by rw [hg]; exact Nat.ne_of_gt (blk_lt (g := gb238) (by (with_reducible repeat (first | refine bN ?_ _ | refine bD ?_ | refine bA ?_ _)); exact BK238.out)) : gb278 ≠ gb238))
              have n11_ := Aside0.mk ((by rw [hg]; exact Nat.ne_of_lt (blk_lt (g := gb252) (by (with_reducible repeat (first | refine bN ?_ _ | refine bD ?_ | refine bA ?_ _)); exact BK252.out)) : gb252 ≠ gb278))
              have n12_ := Aside0.mk ((by rw [hg]; exact Nat.ne_of_gt (blk_lt (g := gb252) (by (with_reducible repeat (first | refine bN ?_ _ | refine bD ?_ | refine bA ?_ _)); exact BK252.out)) : gb278 ≠ gb252))
              clear BK237
              clear BK238
              clear BK252
              clear HB
              have BK237 := n0_
              have BK238 := n1_
              have BK252 := n2_
              have HB := n3_
              have BK278 := n4_
              have GW278 := n5_
              have GE278 := n6_
              have NB237_278 := n7_
              have NB278_237 := n8_
              have NB238_278 := n9_
              have NB278_238 := n10_
              have NB252_278 := n11_
              have NB278_252 := n12_
              clear n0_ n1_ n2_ n3_ n4_ n5_ n6_ n7_ n8_ n9_ n10_ n11_ n12_
              clear hb hbox hg
              refine hK.out _ _ (br13 BK252.out (br14 BK237.out (bc8 BK238.out))) (fun hHeld => ?_)
              clear hK K
              refine norm_ (a' := ?_) ?_ ?_
              rotate_left
              · show Act.put _ (some 12) _ = _
                simp only [Act.put, List.setIfInBounds_toArray, List.set_cons_zero, List.set_cons_succ, i64_w, i32_w]
                rfl
              refine one_ (i := 3) (N := some 37) #[true, true, true, true, false, false, false, false, true, false, false] rfl rfl (one_of HT_.out (by kernel_rfl)) (by decide) (fun K hK => ?_)
              refine goes_ Try.func44 (by kernel_rfl) rfl #[.agg #[.int .i64 a1_0, .int .i64 a1_1, .bool a1_2, .int .i64 a1_3, .int .i64 a1_4, .int .i64 a1_5, .int .i64 a1_6, .int .i64 a1_7]] (by rfl) rfl rfl (by (try simp only [List.map_toArray, List.map_cons, List.map_nil]); first | done | rfl | (simp only [List.length_drop, List.length_take]; rfl)) ?_
              with_reducible refine (hourglasslaw21_mine.calls a1_0 a1_1 a1_2 a1_3 a1_4 a1_5 a1_6 a1_7 t256 t257 t258 t259 t260 t261 t262 t263 _ A28.out).mono ?_
              rintro e w34 ⟨rfl, hb⟩
              refine ⟨_, rfl, ?_⟩
              have n0_ := Aside0.mk (blk_below (g := gb237) (by (with_reducible repeat (first | refine bN ?_ _ | refine bD ?_ | refine bA ?_ _)); exact BK237.out) hb)
              have n1_ := Aside0.mk (blk_below (g := gb238) (by (with_reducible repeat (first | refine bN ?_ _ | refine bD ?_ | refine bA ?_ _)); exact BK238.out) hb)
              have n2_ := Aside0.mk (blk_below (g := gb252) (by (with_reducible repeat (first | refine bN ?_ _ | refine bD ?_ | refine bA ?_ _)); exact BK252.out) hb)
              have n3_ := Aside0.mk (blk_below (g := gb278) (by (with_reducible repeat (first | refine bN ?_ _ | refine bD ?_ | refine bA ?_ _)); exact BK278.out) hb)
              have n4_ := Aside0.mk (below_step (by repeat (first | (with_reducible first | exact HB.out | apply pA | apply pN | apply pD | refine pS ?_ GE237.out | refine pS ?_ GE238.out | refine pS ?_ GE252.out | refine pS ?_ GE278.out) | exact HB.out)) hb)
              clear BK237
              clear BK238
              clear BK252
              clear BK278
              clear HB
              have BK237 := n0_
              have BK238 := n1_
              have BK252 := n2_
              have BK278 := n3_
              have HB := n4_
              clear n0_ n1_ n2_ n3_ n4_
              (try clear hb)
              (try clear hb2)
              (try clear hk)
              (try clear hi)
              refine hK.out _ _ (br13 BK252.out (br14 BK237.out (bc8 BK238.out))) (fun hHeld => ?_)
              clear hK K
              refine norm_ (a' := ?_) ?_ ?_
              rotate_left
              · show Act.put _ (some 37) _ = _
                simp only [Act.put, List.setIfInBounds_toArray, List.set_cons_zero, List.set_cons_succ, i64_w, i32_w]
                rfl
              refine one_ (i := 4) (N := some 38) #[true, true, true, true, true, false, false, false, true, false, false] rfl rfl (one_of HT_.out (by kernel_rfl)) (by decide) (fun K hK => ?_)
              refine goes_ Try.func43 (by kernel_rfl) rfl #[.agg #[.int .i64 t239, .int .i64 t240, .int .i64 t241, .int .i64 t242, .int .i64 t243, .int .i64 t244, .int .i64 t245, .int .i64 t246, .int .i64 t247, .bool t248, .int .i64 t249, .int .i64 t250, .int .i64 t251], .agg #[.int .i64 a0_0, .int .i64 a0_1, .int .i64 a0_2, .int .i64 a0_3, .int .i64 a0_4, .int .i64 a0_5, .int .i64 a0_6, .int .i64 a0_7, .int .i64 a0_8, .int .i64 a0_9, .int .i64 a0_10, .int .i64 a0_11, .int .i64 a0_12, .slice A0_13 l0_13.length c0_13], .agg #[.int .i64 t256, .int .i64 t257, .bool t258, .int .i64 t259, .int .i64 t260, .int .i64 t261, .int .i64 t262, .int .i64 t263]] (by rfl) rfl rfl (by (try simp only [List.map_toArray, List.map_cons, List.map_nil]); first | done | rfl | (simp only [List.length_drop, List.length_take]; rfl)) ?_
              with_reducible refine (call_Bad.calls kj6 t239 t240 t241 t242 t243 t244 t245 t246 t247 t248 t249 t250 t251 a0_0 a0_1 a0_2 a0_3 a0_4 a0_5 a0_6 a0_7 a0_8 a0_9 a0_10 a0_11 a0_12 _ _ l0_13 t256 t257 t258 t259 t260 t261 t262 t263 t264 t265 t266 t267 t268 t269 t270 t271 t272 t273 t274 t275 t276 t277 _ ?side1 ?side2 A29.out).mono ?_
              (case side1 => repeat (first | exact (Kd.C_below HR0_13.out HB.out) | (with_reducible refine Kd.C_alloc ?_ _) | (with_reducible refine Kd.C_drewN ?_ _) | (with_reducible refine Kd.C_drew ?_)))
              (case side2 => exact HC0_13.out)
              rintro e w35 ⟨rfl, hb⟩
              refine ⟨_, rfl, ?_⟩
              have n0_ := Aside0.mk (blk_below (g := gb237) (by (with_reducible repeat (first | refine bN ?_ _ | refine bD ?_ | refine bA ?_ _)); exact BK237.out) hb)
              have n1_ := Aside0.mk (blk_below (g := gb238) (by (with_reducible repeat (first | refine bN ?_ _ | refine bD ?_ | refine bA ?_ _)); exact BK238.out) hb)
              have n2_ := Aside0.mk (blk_below (g := gb252) (by (with_reducible repeat (first | refine bN ?_ _ | refine bD ?_ | refine bA ?_ _)); exact BK252.out) hb)
              have n3_ := Aside0.mk (blk_below (g := gb278) (by (with_reducible repeat (first | refine bN ?_ _ | refine bD ?_ | refine bA ?_ _)); exact BK278.out) hb)
              have n4_ := Aside0.mk (below_step (by repeat (first | (with_reducible first | exact HB.out | apply pA | apply pN | apply pD | refine pS ?_ GE237.out | refine pS ?_ GE238.out | refine pS ?_ GE252.out | refine pS ?_ GE278.out) | exact HB.out)) hb)
              clear BK237
              clear BK238
              clear BK252
              clear BK278
              clear HB
              have BK237 := n0_
              have BK238 := n1_
              have BK252 := n2_
              have BK278 := n3_
              have HB := n4_
              clear n0_ n1_ n2_ n3_ n4_
              (try clear hb)
              (try clear hb2)
              (try clear hk)
              (try clear hi)
              refine hK.out _ _ (br13 BK252.out (br14 BK237.out (bc8 BK238.out))) (fun hHeld => ?_)
              clear hK K
              refine norm_ (a' := ?_) ?_ ?_
              rotate_left
              · show Act.put _ (some 38) _ = _
                simp only [Act.put, List.setIfInBounds_toArray, List.set_cons_zero, List.set_cons_succ, i64_w, i32_w]
                rfl
              refine pure_ (i := 5) (N := some 33) (v := ?_) (a' := ?_) #[true, true, true, true, true, true, false, false, true, false, false] rfl rfl (any_of HT_.out (by kernel_rfl)) (fun _ _ _ h => h) (Or.inl ⟨by rfl, ?_⟩) ?_ ?_
              rotate_left
              · intro w'
                go_simp
                with_reducible rfl
              rotate_left
              · simp only [Act.put, List.setIfInBounds_toArray, List.set_cons_zero, List.set_cons_succ, i64_w, i32_w]
                rfl
              refine pure_ (i := 6) (N := some 39) (v := ?_) (a' := ?_) #[true, true, true, true, true, true, true, false, true, false, false] rfl rfl (any_of HT_.out (by kernel_rfl)) (fun _ _ _ h => h) (Or.inl ⟨by rfl, ?_⟩) ?_ ?_
              rotate_left
              · intro w'
                go_simp
                with_reducible rfl
              rotate_left
              · simp only [Act.put, List.setIfInBounds_toArray, List.set_cons_zero, List.set_cons_succ, i64_w, i32_w]
                rfl
              refine pure_ (i := 7) (N := some 40) (v := ?_) (a' := ?_) #[true, true, true, true, true, true, true, true, true, false, false] rfl rfl (any_of HT_.out (by kernel_rfl)) (fun _ _ _ h => h) (Or.inl ⟨by rfl, ?_⟩) ?_ ?_
              rotate_left
              · intro w'
                go_simp
                with_reducible rfl
              rotate_left
              · simp only [Act.put, List.setIfInBounds_toArray, List.set_cons_zero, List.set_cons_succ, i64_w, i32_w]
                rfl
              exact norm_ (by simp only [putAll, Act.put, List.setIfInBounds_toArray, List.set_cons_zero, List.set_cons_succ]) (hCont (gb278) _ ⟨hHeld, (by (with_reducible repeat (first | refine bN ?_ _ | refine bD ?_ | refine bA ?_ _)); exact BK237.out), (by (with_reducible repeat (first | refine bN ?_ _ | refine bD ?_ | refine bA ?_ _)); exact BK238.out), (by (with_reducible repeat (first | refine bN ?_ _ | refine bD ?_ | refine bA ?_ _)); exact BK252.out), (by (with_reducible repeat (first | refine bN ?_ _ | refine bD ?_ | refine bA ?_ _)); exact BK278.out), GW278.out, GE278.out, NB237_278.out, NB278_237.out, NB238_278.out, NB278_238.out, NB252_278.out, NB278_252.out, (by repeat (first | (with_reducible first | exact HB.out | apply pA | apply pN | apply pD | refine pS ?_ GE237.out | refine pS ?_ GE238.out | refine pS ?_ GE252.out | refine pS ?_ GE278.out) | exact HB.out))⟩)
          rintro gb278 w36 ⟨hS_, h0_, h1_, h2_, h3_, h4_, h5_, h6_, h7_, h8_, h9_, h10_, h11_, h12_⟩
          have n0_ : Aside0 (w36.heap[gb237]? = some (.cells #[.int .i64 a0_0, .int .i64 a0_1, .int .i64 a0_2, .int .i64 a0_3, .int .i64 a0_4, .int .i64 a0_5, .int .i64 a0_6, .int .i64 a0_7, .int .i64 a0_8, .int .i64 a0_9, .int .i64 a0_10, .int .i64 a0_11, .int .i64 a0_12, .slice A0_13 l0_13.length c0_13] 72 (0, 0))) := ⟨h0_⟩
          have n1_ : Aside0 (w36.heap[gb238]? = some (.cells #[.int .i64 a1_0, .int .i64 a1_1, .bool a1_2, .int .i64 a1_3, .int .i64 a1_4, .int .i64 a1_5, .int .i64 a1_6, .int .i64 a1_7] 77 (0, 0))) := ⟨h1_⟩
          have n2_ : Aside0 (w36.heap[gb252]? = some (.cells #[.int .i64 t239, .int .i64 t240, .int .i64 t241, .int .i64 t242, .int .i64 t243, .int .i64 t244, .int .i64 t245, .int .i64 t246, .int .i64 t247, .bool t248, .int .i64 t249, .int .i64 t250, .int .i64 t251] 58 (0, 0))) := ⟨h2_⟩
          have n3_ : Aside0 (w36.heap[gb278]? = some (.cells #[.int .i64 0, .int .i64 0, .int .i64 0, .int .i64 0, .int .i64 0, .int .i64 0, .int .i64 0, .int .i64 0, .int .i64 0, .bool false, .int .i64 0, .int .i64 0, .int .i64 0] 58 (0, 0))) := ⟨h3_⟩
          have n4_ : Aside0 (w.heap.size ≤ gb278) := ⟨h4_⟩
          have n5_ : Aside0 (w.heap.size ≤ gb278) := ⟨h5_⟩
          have n6_ : Aside0 (gb237 ≠ gb278) := ⟨h6_⟩
          have n7_ : Aside0 (gb278 ≠ gb237) := ⟨h7_⟩
          have n8_ : Aside0 (gb238 ≠ gb278) := ⟨h8_⟩
          have n9_ : Aside0 (gb278 ≠ gb238) := ⟨h9_⟩
          have n10_ : Aside0 (gb252 ≠ gb278) := ⟨h10_⟩
          have n11_ : Aside0 (gb278 ≠ gb252) := ⟨h11_⟩
          have n12_ : Aside0 (Below w.heap.size w w36) := ⟨h12_⟩
          clear BK237
          clear BK238
          clear BK252
          clear HB
          clear h0_ h1_ h2_ h3_ h4_ h5_ h6_ h7_ h8_ h9_ h10_ h11_ h12_
          have BK237 := n0_
          have BK238 := n1_
          have BK252 := n2_
          have BK278 := n3_
          have GW278 := n4_
          have GE278 := n5_
          have NB237_278 := n6_
          have NB278_237 := n7_
          have NB238_278 := n8_
          have NB278_238 := n9_
          have NB252_278 := n10_
          have NB278_252 := n11_
          have HB := n12_
          clear n0_ n1_ n2_ n3_ n4_ n5_ n6_ n7_ n8_ n9_ n10_ n11_ n12_
          have hHeld : w36.cell? ⟨gb252, 0, none⟩ = some (.int .i64 t239) ∧ w36.cell? ⟨gb252, 1, none⟩ = some (.int .i64 t240) ∧ w36.cell? ⟨gb252, 2, none⟩ = some (.int .i64 t241) ∧ w36.cell? ⟨gb252, 3, none⟩ = some (.int .i64 t242) ∧ w36.cell? ⟨gb252, 4, none⟩ = some (.int .i64 t243) ∧ w36.cell? ⟨gb252, 5, none⟩ = some (.int .i64 t244) ∧ w36.cell? ⟨gb252, 6, none⟩ = some (.int .i64 t245) ∧ w36.cell? ⟨gb252, 7, none⟩ = some (.int .i64 t246) ∧ w36.cell? ⟨gb252, 8, none⟩ = some (.int .i64 t247) ∧ w36.cell? ⟨gb252, 9, none⟩ = some (.bool t248) ∧ w36.cell? ⟨gb252, 10, none⟩ = some (.int .i64 t249) ∧ w36.cell? ⟨gb252, 11, none⟩ = some (.int .i64 t250) ∧ w36.cell? ⟨gb252, 12, none⟩ = some (.int .i64 t251) ∧ w36.cell? ⟨gb237, 0, none⟩ = some (.int .i64 a0_0) ∧ w36.cell? ⟨gb237, 1, none⟩ = some (.int .i64 a0_1) ∧ w36.cell? ⟨gb237, 2, none⟩ = some (.int .i64 a0_2) ∧ w36.cell? ⟨gb237, 3, none⟩ = some (.int .i64 a0_3) ∧ w36.cell? ⟨gb237, 4, none⟩ = some (.int .i64 a0_4) ∧ w36.cell? ⟨gb237, 5, none⟩ = some (.int .i64 a0_5) ∧ w36.cell? ⟨gb237, 6, none⟩ = some (.int .i64 a0_6) ∧ w36.cell? ⟨gb237, 7, none⟩ = some (.int .i64 a0_7) ∧ w36.cell? ⟨gb237, 8, none⟩ = some (.int .i64 a0_8) ∧ w36.cell? ⟨gb237, 9, none⟩ = some (.int .i64 a0_9) ∧ w36.cell? ⟨gb237, 10, none⟩ = some (.int .i64 a0_10) ∧ w36.cell? ⟨gb237, 11, none⟩ = some (.int .i64 a0_11) ∧ w36.cell? ⟨gb237, 12, none⟩ = some (.int .i64 a0_12) ∧ w36.cell? ⟨gb237, 13, none⟩ = some (.slice A0_13 l0_13.length c0_13) ∧ w36.cell? ⟨gb238, 0, none⟩ = some (.int .i64 a1_0) ∧ w36.cell? ⟨gb238, 1, none⟩ = some (.int .i64 a1_1) ∧ w36.cell? ⟨gb238, 2, none⟩ = some (.bool a1_2) ∧ w36.cell? ⟨gb238, 3, none⟩ = some (.int .i64 a1_3) ∧ w36.cell? ⟨gb238, 4, none⟩ = some (.int .i64 a1_4) ∧ w36.cell? ⟨gb238, 5, none⟩ = some (.int .i64 a1_5) ∧ w36.cell? ⟨gb238, 6, none⟩ = some (.int .i64 a1_6) ∧ w36.cell? ⟨gb238, 7, none⟩ = some (.int .i64 a1_7) := hS_
          refine norm_ (a' := ?_) ?_ ?_
          rotate_left
          · simp only [putAll, Act.put, List.setIfInBounds_toArray, List.set_cons_zero, List.set_cons_succ]
            rfl
          refine one_ (i := 9) (N := none) #[true, true, true, true, true, true, true, true, true, true, false] rfl rfl (one_of HT_.out (by kernel_rfl)) (by decide) (fun K hK => ?_)
          have hs37 : w36.cell? ⟨gb278, 0, none⟩ = some (.int .i64 0) := (blk_cell BK278.out 0).trans rfl
          have hfs37 := blk_frozen BK278.out 0
          have hns37_0 := NB237_278.out
          have hns37_1 := NB238_278.out
          have hns37_2 := NB252_278.out
          have hms37_0 := NB278_237.out
          have hms37_1 := NB278_238.out
          have hms37_2 := NB278_252.out
          have hs38 : w36.cell? ⟨gb278, 1, none⟩ = some (.int .i64 0) := (blk_cell BK278.out 1).trans rfl
          have hfs38 := blk_frozen BK278.out 1
          have hns38_0 := NB237_278.out
          have hns38_1 := NB238_278.out
          have hns38_2 := NB252_278.out
          have hms38_0 := NB278_237.out
          have hms38_1 := NB278_238.out
          have hms38_2 := NB278_252.out
          have hs39 : w36.cell? ⟨gb278, 2, none⟩ = some (.int .i64 0) := (blk_cell BK278.out 2).trans rfl
          have hfs39 := blk_frozen BK278.out 2
          have hns39_0 := NB237_278.out
          have hns39_1 := NB238_278.out
          have hns39_2 := NB252_278.out
          have hms39_0 := NB278_237.out
          have hms39_1 := NB278_238.out
          have hms39_2 := NB278_252.out
          have hs40 : w36.cell? ⟨gb278, 3, none⟩ = some (.int .i64 0) := (blk_cell BK278.out 3).trans rfl
          have hfs40 := blk_frozen BK278.out 3
          have hns40_0 := NB237_278.out
          have hns40_1 := NB238_278.out
          have hns40_2 := NB252_278.out
          have hms40_0 := NB278_237.out
          have hms40_1 := NB278_238.out
          have hms40_2 := NB278_252.out
          have hs41 : w36.cell? ⟨gb278, 4, none⟩ = some (.int .i64 0) := (blk_cell BK278.out 4).trans rfl
          have hfs41 := blk_frozen BK278.out 4
          have hns41_0 := NB237_278.out
          have hns41_1 := NB238_278.out
          have hns41_2 := NB252_278.out
          have hms41_0 := NB278_237.out
          have hms41_1 := NB278_238.out
          have hms41_2 := NB278_252.out
          have hs42 : w36.cell? ⟨gb278, 5, none⟩ = some (.int .i64 0) := (blk_cell BK278.out 5).trans rfl
          have hfs42 := blk_frozen BK278.out 5
          have hns42_0 := NB237_278.out
          have hns42_1 := NB238_278.out
          have hns42_2 := NB252_278.out
          have hms42_0 := NB278_237.out
          have hms42_1 := NB278_238.out
          have hms42_2 := NB278_252.out
          have hs43 : w36.cell? ⟨gb278, 6, none⟩ = some (.int .i64 0) := (blk_cell BK278.out 6).trans rfl
          have hfs43 := blk_frozen BK278.out 6
          have hns43_0 := NB237_278.out
          have hns43_1 := NB238_278.out
          have hns43_2 := NB252_278.out
          have hms43_0 := NB278_237.out
          have hms43_1 := NB278_238.out
          have hms43_2 := NB278_252.out
          have hs44 : w36.cell? ⟨gb278, 7, none⟩ = some (.int .i64 0) := (blk_cell BK278.out 7).trans rfl
          have hfs44 := blk_frozen BK278.out 7
          have hns44_0 := NB237_278.out
          have hns44_1 := NB238_278.out
          have hns44_2 := NB252_278.out
          have hms44_0 := NB278_237.out
          have hms44_1 := NB278_238.out
          have hms44_2 := NB278_252.out
          have hs45 : w36.cell? ⟨gb278, 8, none⟩ = some (.int .i64 0) := (blk_cell BK278.out 8).trans rfl
          have hfs45 := blk_frozen BK278.out 8
          have hns45_0 := NB237_278.out
          have hns45_1 := NB238_278.out
          have hns45_2 := NB252_278.out
          have hms45_0 := NB278_237.out
          have hms45_1 := NB278_238.out
          have hms45_2 := NB278_252.out
          have hs46 : w36.cell? ⟨gb278, 9, none⟩ = some (.bool false) := (blk_cell BK278.out 9).trans rfl
          have hfs46 := blk_frozen BK278.out 9
          have hns46_0 := NB237_278.out
          have hns46_1 := NB238_278.out
          have hns46_2 := NB252_278.out
          have hms46_0 := NB278_237.out
          have hms46_1 := NB278_238.out
          have hms46_2 := NB278_252.out
          have hs47 : w36.cell? ⟨gb278, 10, none⟩ = some (.int .i64 0) := (blk_cell BK278.out 10).trans rfl
          have hfs47 := blk_frozen BK278.out 10
          have hns47_0 := NB237_278.out
          have hns47_1 := NB238_278.out
          have hns47_2 := NB252_278.out
          have hms47_0 := NB278_237.out
          have hms47_1 := NB278_238.out
          have hms47_2 := NB278_252.out
          have hs48 : w36.cell? ⟨gb278, 11, none⟩ = some (.int .i64 0) := (blk_cell BK278.out 11).trans rfl
          have hfs48 := blk_frozen BK278.out 11
          have hns48_0 := NB237_278.out
          have hns48_1 := NB238_278.out
          have hns48_2 := NB252_278.out
          have hms48_0 := NB278_237.out
          have hms48_1 := NB278_238.out
          have hms48_2 := NB278_252.out
          have hs49 : w36.cell? ⟨gb278, 12, none⟩ = some (.int .i64 0) := (blk_cell BK278.out 12).trans rfl
          have hfs49 := blk_frozen BK278.out 12
          have hns49_0 := NB237_278.out
          have hns49_1 := NB238_278.out
          have hns49_2 := NB252_278.out
          have hms49_0 := NB278_237.out
          have hms49_1 := NB278_238.out
          have hms49_2 := NB278_252.out
          refine skip_ (w1 := ?_) (by rfl) rfl ?_ ?_
          rotate_left
          · go_simp
            rfl
          refine hK.out _ _ ⟨(by (iterate 13 (refine (cell_far (p := ⟨gb278, _, none⟩) NB252_278.out _).trans ?_)); exact hHeld.1), (by (iterate 13 (refine (cell_far (p := ⟨gb278, _, none⟩) NB252_278.out _).trans ?_)); exact hHeld.2.1), (by (iterate 13 (refine (cell_far (p := ⟨gb278, _, none⟩) NB252_278.out _).trans ?_)); exact hHeld.2.2.1), (by (iterate 13 (refine (cell_far (p := ⟨gb278, _, none⟩) NB252_278.out _).trans ?_)); exact hHeld.2.2.2.1), (by (iterate 13 (refine (cell_far (p := ⟨gb278, _, none⟩) NB252_278.out _).trans ?_)); exact hHeld.2.2.2.2.1), (by (iterate 13 (refine (cell_far (p := ⟨gb278, _, none⟩) NB252_278.out _).trans ?_)); exact hHeld.2.2.2.2.2.1), (by (iterate 13 (refine (cell_far (p := ⟨gb278, _, none⟩) NB252_278.out _).trans ?_)); exact hHeld.2.2.2.2.2.2.1), (by (iterate 13 (refine (cell_far (p := ⟨gb278, _, none⟩) NB252_278.out _).trans ?_)); exact hHeld.2.2.2.2.2.2.2.1), (by (iterate 13 (refine (cell_far (p := ⟨gb278, _, none⟩) NB252_278.out _).trans ?_)); exact hHeld.2.2.2.2.2.2.2.2.1), (by (iterate 13 (refine (cell_far (p := ⟨gb278, _, none⟩) NB252_278.out _).trans ?_)); exact hHeld.2.2.2.2.2.2.2.2.2.1), (by (iterate 13 (refine (cell_far (p := ⟨gb278, _, none⟩) NB252_278.out _).trans ?_)); exact hHeld.2.2.2.2.2.2.2.2.2.2.1), (by (iterate 13 (refine (cell_far (p := ⟨gb278, _, none⟩) NB252_278.out _).trans ?_)); exact hHeld.2.2.2.2.2.2.2.2.2.2.2.1), (by (iterate 13 (refine (cell_far (p := ⟨gb278, _, none⟩) NB252_278.out _).trans ?_)); exact hHeld.2.2.2.2.2.2.2.2.2.2.2.2.1), (by (iterate 13 (refine (cell_far (p := ⟨gb278, _, none⟩) NB237_278.out _).trans ?_)); exact hHeld.2.2.2.2.2.2.2.2.2.2.2.2.2.1), (by (iterate 13 (refine (cell_far (p := ⟨gb278, _, none⟩) NB237_278.out _).trans ?_)); exact hHeld.2.2.2.2.2.2.2.2.2.2.2.2.2.2.1), (by (iterate 13 (refine (cell_far (p := ⟨gb278, _, none⟩) NB237_278.out _).trans ?_)); exact hHeld.2.2.2.2.2.2.2.2.2.2.2.2.2.2.2.1), (by (iterate 13 (refine (cell_far (p := ⟨gb278, _, none⟩) NB237_278.out _).trans ?_)); exact hHeld.2.2.2.2.2.2.2.2.2.2.2.2.2.2.2.2.1), (by (iterate 13 (refine (cell_far (p := ⟨gb278, _, none⟩) NB237_278.out _).trans ?_)); exact hHeld.2.2.2.2.2.2.2.2.2.2.2.2.2.2.2.2.2.1), (by (iterate 13 (refine (cell_far (p := ⟨gb278, _, none⟩) NB237_278.out _).trans ?_)); exact hHeld.2.2.2.2.2.2.2.2.2.2.2.2.2.2.2.2.2.2.1), (by (iterate 13 (refine (cell_far (p := ⟨gb278, _, none⟩) NB237_278.out _).trans ?_)); exact hHeld.2.2.2.2.2.2.2.2.2.2.2.2.2.2.2.2.2.2.2.1), (by (iterate 13 (refine (cell_far (p := ⟨gb278, _, none⟩) NB237_278.out _).trans ?_)); exact hHeld.2.2.2.2.2.2.2.2.2.2.2.2.2.2.2.2.2.2.2.2.1), (by (iterate 13 (refine (cell_far (p := ⟨gb278, _, none⟩) NB237_278.out _).trans ?_)); exact hHeld.2.2.2.2.2.2.2.2.2.2.2.2.2.2.2.2.2.2.2.2.2.1), (by (iterate 13 (refine (cell_far (p := ⟨gb278, _, none⟩) NB237_278.out _).trans ?_)); exact hHeld.2.2.2.2.2.2.2.2.2.2.2.2.2.2.2.2.2.2.2.2.2.2.1), (by (iterate 13 (refine (cell_far (p := ⟨gb278, _, none⟩) NB237_278.out _).trans ?_)); exact hHeld.2.2.2.2.2.2.2.2.2.2.2.2.2.2.2.2.2.2.2.2.2.2.2.1), (by (iterate 13 (refine (cell_far (p := ⟨gb278, _, none⟩) NB237_278.out _).trans ?_)); exact hHeld.2.2.2.2.2.2.2.2.2.2.2.2.2.2.2.2.2.2.2.2.2.2.2.2.1), (by (iterate 13 (refine (cell_far (p := ⟨gb278, _, none⟩) NB237_278.out _).trans ?_)); exact hHeld.2.2.2.2.2.2.2.2.2.2.2.2.2.2.2.2.2.2.2.2.2.2.2.2.2.1), (by (iterate 13 (refine (cell_far (p := ⟨gb278, _, none⟩) NB237_278.out _).trans ?_)); exact hHeld.2.2.2.2.2.2.2.2.2.2.2.2.2.2.2.2.2.2.2.2.2.2.2.2.2.2.1), (by (iterate 13 (refine (cell_far (p := ⟨gb278, _, none⟩) NB238_278.out _).trans ?_)); exact hHeld.2.2.2.2.2.2.2.2.2.2.2.2.2.2.2.2.2.2.2.2.2.2.2.2.2.2.2.1), (by (iterate 13 (refine (cell_far (p := ⟨gb278, _, none⟩) NB238_278.out _).trans ?_)); exact hHeld.2.2.2.2.2.2.2.2.2.2.2.2.2.2.2.2.2.2.2.2.2.2.2.2.2.2.2.2.1), (by (iterate 13 (refine (cell_far (p := ⟨gb278, _, none⟩) NB238_278.out _).trans ?_)); exact hHeld.2.2.2.2.2.2.2.2.2.2.2.2.2.2.2.2.2.2.2.2.2.2.2.2.2.2.2.2.2.1), (by (iterate 13 (refine (cell_far (p := ⟨gb278, _, none⟩) NB238_278.out _).trans ?_)); exact hHeld.2.2.2.2.2.2.2.2.2.2.2.2.2.2.2.2.2.2.2.2.2.2.2.2.2.2.2.2.2.2.1), (by (iterate 13 (refine (cell_far (p := ⟨gb278, _, none⟩) NB238_278.out _).trans ?_)); exact hHeld.2.2.2.2.2.2.2.2.2.2.2.2.2.2.2.2.2.2.2.2.2.2.2.2.2.2.2.2.2.2.2.1), (by (iterate 13 (refine (cell_far (p := ⟨gb278, _, none⟩) NB238_278.out _).trans ?_)); exact hHeld.2.2.2.2.2.2.2.2.2.2.2.2.2.2.2.2.2.2.2.2.2.2.2.2.2.2.2.2.2.2.2.2.1), (by (iterate 13 (refine (cell_far (p := ⟨gb278, _, none⟩) NB238_278.out _).trans ?_)); exact hHeld.2.2.2.2.2.2.2.2.2.2.2.2.2.2.2.2.2.2.2.2.2.2.2.2.2.2.2.2.2.2.2.2.2.1), (by (iterate 13 (refine (cell_far (p := ⟨gb278, _, none⟩) NB238_278.out _).trans ?_)); exact hHeld.2.2.2.2.2.2.2.2.2.2.2.2.2.2.2.2.2.2.2.2.2.2.2.2.2.2.2.2.2.2.2.2.2.2)⟩ (fun hHeld => ?_)
          clear hK K
          refine pure_ (i := 10) (N := some 13) (v := ?_) (a' := ?_) #[true, true, true, true, true, true, true, true, true, true, true] rfl rfl (any_of HT_.out (by kernel_rfl)) (fun _ _ _ h => h) (Or.inl ⟨by rfl, ?_⟩) ?_ ?_
          rotate_left
          · intro w'
            go_simp
            with_reducible rfl
          rotate_left
          · simp only [Act.put, List.setIfInBounds_toArray, List.set_cons_zero, List.set_cons_succ, i64_w, i32_w]
            rfl
          refine done_ (done_of HT_.out (by kernel_rfl)) ?_
          go_upto_region 7 with (fail)
          go_cut [14] (fun v14 wc => ∃ (kq : Nat) (x14_30 : Bool), v14 = .bool x14_30 ∧ Aside0 (hourglasslaw21_CallWaits.j1 kq a2 a3 a4 x14_30 t264 t265 t266 t267 t268 t269 t270 t271 t272 t273 t274 t275 t276 = some r) ∧ Aside0 (kq ≤ kj6) ∧ Aside0 (wc.heap[gb237]? = some (.cells #[.int .i64 a0_0, .int .i64 a0_1, .int .i64 a0_2, .int .i64 a0_3, .int .i64 a0_4, .int .i64 a0_5, .int .i64 a0_6, .int .i64 a0_7, .int .i64 a0_8, .int .i64 a0_9, .int .i64 a0_10, .int .i64 a0_11, .int .i64 a0_12, (.slice A0_13 l0_13.length c0_13)] 72 (0, 0))) ∧ Aside0 (wc.heap[gb238]? = some (.cells #[.int .i64 a1_0, .int .i64 a1_1, .bool a1_2, .int .i64 a1_3, .int .i64 a1_4, .int .i64 a1_5, .int .i64 a1_6, .int .i64 a1_7] 77 (0, 0))) ∧ Aside0 (wc.heap[gb252]? = some (.cells #[.int .i64 t239, .int .i64 t240, .int .i64 t241, .int .i64 t242, .int .i64 t243, .int .i64 t244, .int .i64 t245, .int .i64 t246, .int .i64 t247, .bool t248, .int .i64 t249, .int .i64 t250, .int .i64 t251] 58 (0, 0))) ∧ Aside0 (wc.heap[gb278]? = some (.cells #[.int .i64 t264, .int .i64 t265, .int .i64 t266, .int .i64 t267, .int .i64 t268, .int .i64 t269, .int .i64 t270, .int .i64 t271, .int .i64 t272, .bool t273, .int .i64 t274, .int .i64 t275, .int .i64 t276] 58 (0, 0))) ∧ Aside0 (Below w.heap.size w wc))
          case first =>
            have H := HC31.out
            clear HC31
            replace H := Option.bind_eq_some_iff.mp H
            obtain ⟨t281, A500, H⟩ := H
            replace H : ((hourglassref01_Clamp.f a1_5).bind fun t282 => (if t281 < t282 then (hourglasslaw21_CallWaits.j1 kj6 a2 a3 a4 true t264 t265 t266 t267 t268 t269 t270 t271 t272 t273 t274 t275 t276) else (if a1_3 ≥ 0 then ((hourglassref01_Clamp.f a2).bind fun t283 => ((hourglassref01_Add.f a1_5 a1_3).bind fun t284 => (hourglasslaw21_CallWaits.j1 kj6 a2 a3 a4 (decide (t283 < t284)) t264 t265 t266 t267 t268 t269 t270 t271 t272 t273 t274 t275 t276))) else (hourglasslaw21_CallWaits.j1 kj6 a2 a3 a4 false t264 t265 t266 t267 t268 t269 t270 t271 t272 t273 t274 t275 t276)))) = some r := H
            have A50 := Aside0.mk A500
            clear A500
            replace H := Option.bind_eq_some_iff.mp H
            obtain ⟨t282, A510, H⟩ := H
            replace H : (if t281 < t282 then (hourglasslaw21_CallWaits.j1 kj6 a2 a3 a4 true t264 t265 t266 t267 t268 t269 t270 t271 t272 t273 t274 t275 t276) else (if a1_3 ≥ 0 then ((hourglassref01_Clamp.f a2).bind fun t283 => ((hourglassref01_Add.f a1_5 a1_3).bind fun t284 => (hourglasslaw21_CallWaits.j1 kj6 a2 a3 a4 (decide (t283 < t284)) t264 t265 t266 t267 t268 t269 t270 t271 t272 t273 t274 t275 t276))) else (hourglasslaw21_CallWaits.j1 kj6 a2 a3 a4 false t264 t265 t266 t267 t268 t269 t270 t271 t272 t273 t274 t275 t276))) = some r := H
            have A51 := Aside0.mk A510
            clear A510
            by_cases c52 : t281 < t282
            · rw [if_pos c52] at H
              have c52b0 : decide (t281 < t282) = true := decide_eq_true c52
              clear c52
              (first | rw [c52b0] | (simp only [i64_w, i32_w]; rw [c52b0]) | skip)
              have H' := Aside0.mk H
              clear H
              try go_wp2
              have n0_ : Aside0 ((((((((((((((w36.setCell ⟨gb278, 0, none⟩ (.int .i64 t264)).setCell ⟨gb278, 1, none⟩ (.int .i64 t265)).setCell ⟨gb278, 2, none⟩ (.int .i64 t266)).setCell ⟨gb278, 3, none⟩ (.int .i64 t267)).setCell ⟨gb278, 4, none⟩ (.int .i64 t268)).setCell ⟨gb278, 5, none⟩ (.int .i64 t269)).setCell ⟨gb278, 6, none⟩ (.int .i64 t270)).setCell ⟨gb278, 7, none⟩ (.int .i64 t271)).setCell ⟨gb278, 8, none⟩ (.int .i64 t272)).setCell ⟨gb278, 9, none⟩ (.bool t273)).setCell ⟨gb278, 10, none⟩ (.int .i64 t274)).setCell ⟨gb278, 11, none⟩ (.int .i64 t275)).setCell ⟨gb278, 12, none⟩ (.int .i64 t276)).heap[gb237]? = some (.cells #[.int .i64 a0_0, .int .i64 a0_1, .int .i64 a0_2, .int .i64 a0_3, .int .i64 a0_4, .int .i64 a0_5, .int .i64 a0_6, .int .i64 a0_7, .int .i64 a0_8, .int .i64 a0_9, .int .i64 a0_10, .int .i64 a0_11, .int .i64 a0_12, .slice A0_13 l0_13.length c0_13] 72 (0, 0))) := ⟨by (iterate 13 ((with_reducible repeat (first | refine bN ?_ _ | refine bD ?_ | refine bA ?_ _)); refine blk_far ?_ NB237_278.out _)); (with_reducible repeat (first | refine bN ?_ _ | refine bD ?_ | refine bA ?_ _)); exact BK237.out⟩
              have n1_ : Aside0 ((((((((((((((w36.setCell ⟨gb278, 0, none⟩ (.int .i64 t264)).setCell ⟨gb278, 1, none⟩ (.int .i64 t265)).setCell ⟨gb278, 2, none⟩ (.int .i64 t266)).setCell ⟨gb278, 3, none⟩ (.int .i64 t267)).setCell ⟨gb278, 4, none⟩ (.int .i64 t268)).setCell ⟨gb278, 5, none⟩ (.int .i64 t269)).setCell ⟨gb278, 6, none⟩ (.int .i64 t270)).setCell ⟨gb278, 7, none⟩ (.int .i64 t271)).setCell ⟨gb278, 8, none⟩ (.int .i64 t272)).setCell ⟨gb278, 9, none⟩ (.bool t273)).setCell ⟨gb278, 10, none⟩ (.int .i64 t274)).setCell ⟨gb278, 11, none⟩ (.int .i64 t275)).setCell ⟨gb278, 12, none⟩ (.int .i64 t276)).heap[gb238]? = some (.cells #[.int .i64 a1_0, .int .i64 a1_1, .bool a1_2, .int .i64 a1_3, .int .i64 a1_4, .int .i64 a1_5, .int .i64 a1_6, .int .i64 a1_7] 77 (0, 0))) := ⟨by (iterate 13 ((with_reducible repeat (first | refine bN ?_ _ | refine bD ?_ | refine bA ?_ _)); refine blk_far ?_ NB238_278.out _)); (with_reducible repeat (first | refine bN ?_ _ | refine bD ?_ | refine bA ?_ _)); exact BK238.out⟩
              have n2_ : Aside0 ((((((((((((((w36.setCell ⟨gb278, 0, none⟩ (.int .i64 t264)).setCell ⟨gb278, 1, none⟩ (.int .i64 t265)).setCell ⟨gb278, 2, none⟩ (.int .i64 t266)).setCell ⟨gb278, 3, none⟩ (.int .i64 t267)).setCell ⟨gb278, 4, none⟩ (.int .i64 t268)).setCell ⟨gb278, 5, none⟩ (.int .i64 t269)).setCell ⟨gb278, 6, none⟩ (.int .i64 t270)).setCell ⟨gb278, 7, none⟩ (.int .i64 t271)).setCell ⟨gb278, 8, none⟩ (.int .i64 t272)).setCell ⟨gb278, 9, none⟩ (.bool t273)).setCell ⟨gb278, 10, none⟩ (.int .i64 t274)).setCell ⟨gb278, 11, none⟩ (.int .i64 t275)).setCell ⟨gb278, 12, none⟩ (.int .i64 t276)).heap[gb252]? = some (.cells #[.int .i64 t239, .int .i64 t240, .int .i64 t241, .int .i64 t242, .int .i64 t243, .int .i64 t244, .int .i64 t245, .int .i64 t246, .int .i64 t247, .bool t248, .int .i64 t249, .int .i64 t250, .int .i64 t251] 58 (0, 0))) := ⟨by (iterate 13 ((with_reducible repeat (first | refine bN ?_ _ | refine bD ?_ | refine bA ?_ _)); refine blk_far ?_ NB252_278.out _)); (with_reducible repeat (first | refine bN ?_ _ | refine bD ?_ | refine bA ?_ _)); exact BK252.out⟩
              have n3_ : Aside0 ((((((((((((((w36.setCell ⟨gb278, 0, none⟩ (.int .i64 t264)).setCell ⟨gb278, 1, none⟩ (.int .i64 t265)).setCell ⟨gb278, 2, none⟩ (.int .i64 t266)).setCell ⟨gb278, 3, none⟩ (.int .i64 t267)).setCell ⟨gb278, 4, none⟩ (.int .i64 t268)).setCell ⟨gb278, 5, none⟩ (.int .i64 t269)).setCell ⟨gb278, 6, none⟩ (.int .i64 t270)).setCell ⟨gb278, 7, none⟩ (.int .i64 t271)).setCell ⟨gb278, 8, none⟩ (.int .i64 t272)).setCell ⟨gb278, 9, none⟩ (.bool t273)).setCell ⟨gb278, 10, none⟩ (.int .i64 t274)).setCell ⟨gb278, 11, none⟩ (.int .i64 t275)).setCell ⟨gb278, 12, none⟩ (.int .i64 t276)).heap[gb278]? = some (.cells #[.int .i64 t264, .int .i64 t265, .int .i64 t266, .int .i64 t267, .int .i64 t268, .int .i64 t269, .int .i64 t270, .int .i64 t271, .int .i64 t272, .bool t273, .int .i64 t274, .int .i64 t275, .int .i64 t276] 58 (0, 0))) := ⟨by (with_reducible repeat (first | refine bN ?_ _ | refine bD ?_ | refine bA ?_ _)); apply bq; (with_reducible repeat (first | refine bN ?_ _ | refine bD ?_ | refine bA ?_ _)); apply bq; (with_reducible repeat (first | refine bN ?_ _ | refine bD ?_ | refine bA ?_ _)); apply bq; (with_reducible repeat (first | refine bN ?_ _ | refine bD ?_ | refine bA ?_ _)); apply bq; (with_reducible repeat (first | refine bN ?_ _ | refine bD ?_ | refine bA ?_ _)); apply bq; (with_reducible repeat (first | refine bN ?_ _ | refine bD ?_ | refine bA ?_ _)); apply bq; (with_reducible repeat (first | refine bN ?_ _ | refine bD ?_ | refine bA ?_ _)); apply bq; (with_reducible repeat (first | refine bN ?_ _ | refine bD ?_ | refine bA ?_ _)); apply bq; (with_reducible repeat (first | refine bN ?_ _ | refine bD ?_ | refine bA ?_ _)); apply bq; (with_reducible repeat (first | refine bN ?_ _ | refine bD ?_ | refine bA ?_ _)); apply bq; (with_reducible repeat (first | refine bN ?_ _ | refine bD ?_ | refine bA ?_ _)); apply bq; (with_reducible repeat (first | refine bN ?_ _ | refine bD ?_ | refine bA ?_ _)); apply bq; (with_reducible repeat (first | refine bN ?_ _ | refine bD ?_ | refine bA ?_ _)); apply bq; (with_reducible repeat (first | refine bN ?_ _ | refine bD ?_ | refine bA ?_ _)); exact BK278.out; all_goals rfl⟩
              have n4_ : Aside0 (Below w.heap.size w (((((((((((((w36.setCell ⟨gb278, 0, none⟩ (.int .i64 t264)).setCell ⟨gb278, 1, none⟩ (.int .i64 t265)).setCell ⟨gb278, 2, none⟩ (.int .i64 t266)).setCell ⟨gb278, 3, none⟩ (.int .i64 t267)).setCell ⟨gb278, 4, none⟩ (.int .i64 t268)).setCell ⟨gb278, 5, none⟩ (.int .i64 t269)).setCell ⟨gb278, 6, none⟩ (.int .i64 t270)).setCell ⟨gb278, 7, none⟩ (.int .i64 t271)).setCell ⟨gb278, 8, none⟩ (.int .i64 t272)).setCell ⟨gb278, 9, none⟩ (.bool t273)).setCell ⟨gb278, 10, none⟩ (.int .i64 t274)).setCell ⟨gb278, 11, none⟩ (.int .i64 t275)).setCell ⟨gb278, 12, none⟩ (.int .i64 t276))) := ⟨by repeat (first | (with_reducible first | exact HB.out | apply pA | apply pN | apply pD | refine pS ?_ GE237.out | refine pS ?_ GE238.out | refine pS ?_ GE252.out | refine pS ?_ GE278.out) | exact HB.out)⟩
              (try clear BK237)
              (try clear BK238)
              (try clear BK252)
              (try clear BK278)
              (try clear HB)
              generalize (((((((((((((w36.setCell ⟨gb278, 0, none⟩ (.int .i64 t264)).setCell ⟨gb278, 1, none⟩ (.int .i64 t265)).setCell ⟨gb278, 2, none⟩ (.int .i64 t266)).setCell ⟨gb278, 3, none⟩ (.int .i64 t267)).setCell ⟨gb278, 4, none⟩ (.int .i64 t268)).setCell ⟨gb278, 5, none⟩ (.int .i64 t269)).setCell ⟨gb278, 6, none⟩ (.int .i64 t270)).setCell ⟨gb278, 7, none⟩ (.int .i64 t271)).setCell ⟨gb278, 8, none⟩ (.int .i64 t272)).setCell ⟨gb278, 9, none⟩ (.bool t273)).setCell ⟨gb278, 10, none⟩ (.int .i64 t274)).setCell ⟨gb278, 11, none⟩ (.int .i64 t275)).setCell ⟨gb278, 12, none⟩ (.int .i64 t276)) = w53 at n0_ n1_ n2_ n3_ n4_ ⊢
              have BK237 := n0_
              have BK238 := n1_
              have BK252 := n2_
              have BK278 := n3_
              have HB := n4_
              clear n0_ n1_ n2_ n3_ n4_
              have n0_ := Aside0.mk (blk_drew BK237.out)
              have n1_ := Aside0.mk (blk_drew BK238.out)
              have n2_ := Aside0.mk (blk_drew BK252.out)
              have n3_ := Aside0.mk (blk_drew BK278.out)
              have n4_ := Aside0.mk (below_drew1 HB.out)
              clear BK237
              clear BK238
              clear BK252
              clear BK278
              clear HB
              have BK237 := n0_
              have BK238 := n1_
              have BK252 := n2_
              have BK278 := n3_
              have HB := n4_
              clear n0_ n1_ n2_ n3_ n4_
              refine start_ (n := 22) (S := fun w' => w'.cell? ⟨gb238, 0, none⟩ = some (.int .i64 a1_0) ∧ w'.cell? ⟨gb238, 1, none⟩ = some (.int .i64 a1_1) ∧ w'.cell? ⟨gb238, 2, none⟩ = some (.bool a1_2) ∧ w'.cell? ⟨gb238, 3, none⟩ = some (.int .i64 a1_3) ∧ w'.cell? ⟨gb238, 4, none⟩ = some (.int .i64 a1_4) ∧ w'.cell? ⟨gb238, 5, none⟩ = some (.int .i64 a1_5) ∧ w'.cell? ⟨gb238, 6, none⟩ = some (.int .i64 a1_6) ∧ w'.cell? ⟨gb238, 7, none⟩ = some (.int .i64 a1_7)) (ds := []) #[false, false, false, false, false, false, false, false, false, false, false, false, false, false, false, false, false, false, false, false, false, false] (by kernel_rfl) rfl rfl (bc8 BK238.out) (fun hHeld => ?_); refine with_tabW hourglasslaw21_CallWaits.tab7 hourglasslaw21_CallWaits.bits7 (fun HT_ HW_ => ?_)
              generalize w53.drew = w54 at BK237 BK238 BK252 BK278 HB hHeld ⊢
              refine pure_ (i := 0) (N := some 56) (v := ?_) (a' := ?_) #[true, false, false, false, false, false, false, false, false, false, false, false, false, false, false, false, false, false, false, false, false, false] rfl rfl (any_of HT_.out (by kernel_rfl)) (fun _ _ _ h => h) (Or.inl ⟨by rfl, ?_⟩) ?_ ?_
              rotate_left
              · intro w'
                go_simp
                with_reducible rfl
              rotate_left
              · simp only [Act.put, List.setIfInBounds_toArray, List.set_cons_zero, List.set_cons_succ, i64_w, i32_w]
                rfl
              refine pure_ (i := 2) (N := some 58) (v := ?_) (a' := ?_) #[true, false, true, false, false, false, false, false, false, false, false, false, false, false, false, false, false, false, false, false, false, false] rfl rfl (any_of HT_.out (by kernel_rfl)) (fun _ _ _ h => h) (Or.inl ⟨by rfl, ?_⟩) ?_ ?_
              rotate_left
              · intro w'
                go_simp
                with_reducible rfl
              rotate_left
              · simp only [Act.put, List.setIfInBounds_toArray, List.set_cons_zero, List.set_cons_succ, i64_w, i32_w]
                rfl
              refine take_ (i := 3) (N := some 59) (v := ?_) (a' := ?_) #[true, false, true, true, false, false, false, false, false, false, false, false, false, false, false, false, false, false, false, false, false, false] rfl rfl (take_ofW HT_.out HW_.out (by kernel_rfl)) (fun _ _ _ h => h) (Or.inl ⟨by rfl, ?_⟩) hHeld ?_ ?_
              rotate_left
              · rintro w' ⟨s0, s1, s2, s3, s4, s5, s6, s7⟩
                go_simp
                with_reducible rfl
              rotate_left
              · simp only [Act.put, List.setIfInBounds_toArray, List.set_cons_zero, List.set_cons_succ, i64_w, i32_w]
                rfl
              refine one_ (i := 1) (N := some 57) #[true, true, true, true, false, false, false, false, false, false, false, false, false, false, false, false, false, false, false, false, false, false] rfl rfl (one_of HT_.out (by kernel_rfl)) (by decide) (fun K hK => ?_)
              refine goes_ Try.func20 (by kernel_rfl) rfl #[.int .i64 a2] (by rfl) rfl rfl (by (try simp only [List.map_toArray, List.map_cons, List.map_nil]); first | done | rfl | (simp only [List.length_drop, List.length_take]; rfl)) ?_
              with_reducible refine (hourglassref01_Clamp.calls a2 t281 _ A50.out).mono ?_
              rintro e w' ⟨rfl, ⟨nd, rfl⟩⟩
              refine ⟨_, rfl, ?_⟩
              refine hK.out _ _ (bc8 BK238.out) (fun hHeld => ?_)
              clear hK K
              refine norm_ (a' := ?_) ?_ ?_
              rotate_left
              · show Act.put _ (some 57) _ = _
                simp only [Act.put, List.setIfInBounds_toArray, List.set_cons_zero, List.set_cons_succ, i64_w, i32_w]
                rfl
              refine one_ (i := 4) (N := some 60) #[true, true, true, true, true, false, false, false, false, false, false, false, false, false, false, false, false, false, false, false, false, false] rfl rfl (one_of HT_.out (by kernel_rfl)) (by decide) (fun K hK => ?_)
              refine goes_ Try.func20 (by kernel_rfl) rfl #[.int .i64 a1_5] (by rfl) rfl rfl (by (try simp only [List.map_toArray, List.map_cons, List.map_nil]); first | done | rfl | (simp only [List.length_drop, List.length_take]; rfl)) ?_
              with_reducible refine (hourglassref01_Clamp.calls a1_5 t282 _ A51.out).mono ?_
              rintro e w' ⟨rfl, ⟨nd, rfl⟩⟩
              refine ⟨_, rfl, ?_⟩
              refine hK.out _ _ (bc8 BK238.out) (fun hHeld => ?_)
              clear hK K
              refine norm_ (a' := ?_) ?_ ?_
              rotate_left
              · show Act.put _ (some 60) _ = _
                simp only [Act.put, List.setIfInBounds_toArray, List.set_cons_zero, List.set_cons_succ, i64_w, i32_w]
                rfl
              refine pure_ (i := 5) (N := some 61) (v := ?_) (a' := ?_) #[true, true, true, true, true, true, false, false, false, false, false, false, false, false, false, false, false, false, false, false, false, false] rfl rfl (any_of HT_.out (by kernel_rfl)) (fun _ _ _ h => h) (Or.inl ⟨by rfl, ?_⟩) ?_ ?_
              rotate_left
              · intro w'
                go_simp
                with_reducible rfl
              rotate_left
              · simp only [Act.put, List.setIfInBounds_toArray, List.set_cons_zero, List.set_cons_succ, i64_w, i32_w]
                rfl
              refine pure_ (i := 6) (N := some 62) (v := ?_) (a' := ?_) #[true, true, true, true, true, true, true, false, false, false, false, false, false, false, false, false, false, false, false, false, false, false] rfl rfl (any_of HT_.out (by kernel_rfl)) (fun _ _ _ h => h) (Or.inl ⟨by rfl, ?_⟩) ?_ ?_
              rotate_left
              · intro w'
                go_simp
                with_reducible rfl
              rotate_left
              · simp only [Act.put, List.setIfInBounds_toArray, List.set_cons_zero, List.set_cons_succ, i64_w, i32_w]
                rfl
              refine pure_ (i := 7) (N := some 63) (v := undef) (a' := ?_) #[true, true, true, true, true, true, true, true, false, false, false, false, false, false, false, false, false, false, false, false, false, false] rfl rfl (any_of HT_.out (by kernel_rfl)) (fun _ _ _ h => h) (Or.inr ⟨by rfl, rfl⟩) ?_ ?_
              rotate_left
              · simp only [Act.put, List.setIfInBounds_toArray, List.set_cons_zero, List.set_cons_succ, i64_w, i32_w]
                rfl
              refine pure_ (i := 8) (N := some 64) (v := undef) (a' := ?_) #[true, true, true, true, true, true, true, true, true, false, false, false, false, false, false, false, false, false, false, false, false, false] rfl rfl (any_of HT_.out (by kernel_rfl)) (fun _ _ _ h => h) (Or.inr ⟨by rfl, rfl⟩) ?_ ?_
              rotate_left
              · simp only [Act.put, List.setIfInBounds_toArray, List.set_cons_zero, List.set_cons_succ, i64_w, i32_w]
                rfl
              refine pure_ (i := 9) (N := some 65) (v := undef) (a' := ?_) #[true, true, true, true, true, true, true, true, true, true, false, false, false, false, false, false, false, false, false, false, false, false] rfl rfl (any_of HT_.out (by kernel_rfl)) (fun _ _ _ h => h) (Or.inr ⟨by rfl, rfl⟩) ?_ ?_
              rotate_left
              · simp only [Act.put, List.setIfInBounds_toArray, List.set_cons_zero, List.set_cons_succ, i64_w, i32_w]
                rfl
              refine pure_ (i := 10) (N := some 66) (v := undef) (a' := ?_) #[true, true, true, true, true, true, true, true, true, true, true, false, false, false, false, false, false, false, false, false, false, false] rfl rfl (any_of HT_.out (by kernel_rfl)) (fun _ _ _ h => h) (Or.inr ⟨by rfl, rfl⟩) ?_ ?_
              rotate_left
              · simp only [Act.put, List.setIfInBounds_toArray, List.set_cons_zero, List.set_cons_succ, i64_w, i32_w]
                rfl
              refine pure_ (i := 11) (N := some 67) (v := undef) (a' := ?_) #[true, true, true, true, true, true, true, true, true, true, true, true, false, false, false, false, false, false, false, false, false, false] rfl rfl (any_of HT_.out (by kernel_rfl)) (fun _ _ _ h => h) (Or.inr ⟨by rfl, rfl⟩) ?_ ?_
              rotate_left
              · simp only [Act.put, List.setIfInBounds_toArray, List.set_cons_zero, List.set_cons_succ, i64_w, i32_w]
                rfl
              refine pure_ (i := 12) (N := some 68) (v := undef) (a' := ?_) #[true, true, true, true, true, true, true, true, true, true, true, true, true, false, false, false, false, false, false, false, false, false] rfl rfl (any_of HT_.out (by kernel_rfl)) (fun _ _ _ h => h) (Or.inr ⟨by rfl, rfl⟩) ?_ ?_
              rotate_left
              · simp only [Act.put, List.setIfInBounds_toArray, List.set_cons_zero, List.set_cons_succ, i64_w, i32_w]
                rfl
              refine pure_ (i := 13) (N := some 69) (v := undef) (a' := ?_) #[true, true, true, true, true, true, true, true, true, true, true, true, true, true, false, false, false, false, false, false, false, false] rfl rfl (any_of HT_.out (by kernel_rfl)) (fun _ _ _ h => h) (Or.inr ⟨by rfl, rfl⟩) ?_ ?_
              rotate_left
              · simp only [Act.put, List.setIfInBounds_toArray, List.set_cons_zero, List.set_cons_succ, i64_w, i32_w]
                rfl
              refine pure_ (i := 14) (N := some 70) (v := undef) (a' := ?_) #[true, true, true, true, true, true, true, true, true, true, true, true, true, true, true, false, false, false, false, false, false, false] rfl rfl (any_of HT_.out (by kernel_rfl)) (fun _ _ _ h => h) (Or.inr ⟨by rfl, rfl⟩) ?_ ?_
              rotate_left
              · simp only [Act.put, List.setIfInBounds_toArray, List.set_cons_zero, List.set_cons_succ, i64_w, i32_w]
                rfl
              refine pure_ (i := 15) (N := some 71) (v := undef) (a' := ?_) #[true, true, true, true, true, true, true, true, true, true, true, true, true, true, true, true, false, false, false, false, false, false] rfl rfl (any_of HT_.out (by kernel_rfl)) (fun _ _ _ h => h) (Or.inr ⟨by rfl, rfl⟩) ?_ ?_
              rotate_left
              · simp only [Act.put, List.setIfInBounds_toArray, List.set_cons_zero, List.set_cons_succ, i64_w, i32_w]
                rfl
              refine pure_ (i := 16) (N := some 72) (v := undef) (a' := ?_) #[true, true, true, true, true, true, true, true, true, true, true, true, true, true, true, true, true, false, false, false, false, false] rfl rfl (any_of HT_.out (by kernel_rfl)) (fun _ _ _ h => h) (Or.inr ⟨by rfl, rfl⟩) ?_ ?_
              rotate_left
              · simp only [Act.put, List.setIfInBounds_toArray, List.set_cons_zero, List.set_cons_succ, i64_w, i32_w]
                rfl
              refine pure_ (i := 17) (N := some 73) (v := undef) (a' := ?_) #[true, true, true, true, true, true, true, true, true, true, true, true, true, true, true, true, true, true, false, false, false, false] rfl rfl (any_of HT_.out (by kernel_rfl)) (fun _ _ _ h => h) (Or.inr ⟨by rfl, rfl⟩) ?_ ?_
              rotate_left
              · simp only [Act.put, List.setIfInBounds_toArray, List.set_cons_zero, List.set_cons_succ, i64_w, i32_w]
                rfl
              refine pure_ (i := 18) (N := some 74) (v := undef) (a' := ?_) #[true, true, true, true, true, true, true, true, true, true, true, true, true, true, true, true, true, true, true, false, false, false] rfl rfl (any_of HT_.out (by kernel_rfl)) (fun _ _ _ h => h) (Or.inr ⟨by rfl, rfl⟩) ?_ ?_
              rotate_left
              · simp only [Act.put, List.setIfInBounds_toArray, List.set_cons_zero, List.set_cons_succ, i64_w, i32_w]
                rfl
              refine pure_ (i := 19) (N := some 75) (v := undef) (a' := ?_) #[true, true, true, true, true, true, true, true, true, true, true, true, true, true, true, true, true, true, true, true, false, false] rfl rfl (any_of HT_.out (by kernel_rfl)) (fun _ _ _ h => h) (Or.inr ⟨by rfl, rfl⟩) ?_ ?_
              rotate_left
              · simp only [Act.put, List.setIfInBounds_toArray, List.set_cons_zero, List.set_cons_succ, i64_w, i32_w]
                rfl
              refine pure_ (i := 20) (N := some 76) (v := ?_) (a' := ?_) #[true, true, true, true, true, true, true, true, true, true, true, true, true, true, true, true, true, true, true, true, true, false] rfl rfl (any_of HT_.out (by kernel_rfl)) (fun _ _ _ h => h) (Or.inl ⟨by rfl, ?_⟩) ?_ ?_
              rotate_left
              · intro w'
                go_simp
                with_reducible rfl
              rotate_left
              · simp only [Act.put, List.setIfInBounds_toArray, List.set_cons_zero, List.set_cons_succ, i64_w, i32_w]
                rfl
              refine pure_ (i := 21) (N := some 14) (v := ?_) (a' := ?_) #[true, true, true, true, true, true, true, true, true, true, true, true, true, true, true, true, true, true, true, true, true, true] rfl rfl (any_of HT_.out (by kernel_rfl)) (fun _ _ _ h => h) (Or.inl ⟨by rfl, ?_⟩) ?_ ?_
              rotate_left
              · intro w'
                go_simp
                with_reducible rfl
              rotate_left
              · simp only [Act.put, List.setIfInBounds_toArray, List.set_cons_zero, List.set_cons_succ, i64_w, i32_w]
                rfl
              refine done_ (done_of HT_.out (by kernel_rfl)) ?_
              try go_wp2
              go_meet
              case rel => exact ⟨_, (true), (by first | rfl | (simp; done) | (simp [*]; done)), H', ⟨by have := HJ6.out; first | omega | exact Nat.le_refl _⟩, ⟨by (with_reducible repeat (first | refine bN ?_ _ | refine bD ?_ | refine bA ?_ _)); exact BK237.out⟩, ⟨by (with_reducible repeat (first | refine bN ?_ _ | refine bD ?_ | refine bA ?_ _)); exact BK238.out⟩, ⟨by (with_reducible repeat (first | refine bN ?_ _ | refine bD ?_ | refine bA ?_ _)); exact BK252.out⟩, ⟨by (with_reducible repeat (first | refine bN ?_ _ | refine bD ?_ | refine bA ?_ _)); exact BK278.out⟩, ⟨by repeat (first | (with_reducible first | exact HB.out | apply pA | apply pN | apply pD | refine pS ?_ GE237.out | refine pS ?_ GE238.out | refine pS ?_ GE252.out | refine pS ?_ GE278.out) | exact HB.out)⟩⟩
            · rw [if_neg c52] at H
              have c52b0 : decide (t281 < t282) = false := decide_eq_false c52
              clear c52
              (first | rw [c52b0] | (simp only [i64_w, i32_w]; rw [c52b0]) | skip)
              by_cases c55 : a1_3 ≥ 0
              · rw [if_pos c55] at H
                have c55b0 : decide (0 ≤ a1_3) = true := decide_eq_true c55
                clear c55
                replace H := Option.bind_eq_some_iff.mp H
                obtain ⟨t283, A560, H⟩ := H
                replace H : ((hourglassref01_Add.f a1_5 a1_3).bind fun t284 => (hourglasslaw21_CallWaits.j1 kj6 a2 a3 a4 (decide (t283 < t284)) t264 t265 t266 t267 t268 t269 t270 t271 t272 t273 t274 t275 t276)) = some r := H
                have A56 := Aside0.mk A560
                clear A560
                replace H := Option.bind_eq_some_iff.mp H
                obtain ⟨t284, A570, H⟩ := H
                replace H : (hourglasslaw21_CallWaits.j1 kj6 a2 a3 a4 (decide (t283 < t284)) t264 t265 t266 t267 t268 t269 t270 t271 t272 t273 t274 t275 t276) = some r := H
                have A57 := Aside0.mk A570
                clear A570
                have H' := Aside0.mk H
                clear H
                try go_wp2
                have n0_ : Aside0 ((((((((((((((w36.setCell ⟨gb278, 0, none⟩ (.int .i64 t264)).setCell ⟨gb278, 1, none⟩ (.int .i64 t265)).setCell ⟨gb278, 2, none⟩ (.int .i64 t266)).setCell ⟨gb278, 3, none⟩ (.int .i64 t267)).setCell ⟨gb278, 4, none⟩ (.int .i64 t268)).setCell ⟨gb278, 5, none⟩ (.int .i64 t269)).setCell ⟨gb278, 6, none⟩ (.int .i64 t270)).setCell ⟨gb278, 7, none⟩ (.int .i64 t271)).setCell ⟨gb278, 8, none⟩ (.int .i64 t272)).setCell ⟨gb278, 9, none⟩ (.bool t273)).setCell ⟨gb278, 10, none⟩ (.int .i64 t274)).setCell ⟨gb278, 11, none⟩ (.int .i64 t275)).setCell ⟨gb278, 12, none⟩ (.int .i64 t276)).heap[gb237]? = some (.cells #[.int .i64 a0_0, .int .i64 a0_1, .int .i64 a0_2, .int .i64 a0_3, .int .i64 a0_4, .int .i64 a0_5, .int .i64 a0_6, .int .i64 a0_7, .int .i64 a0_8, .int .i64 a0_9, .int .i64 a0_10, .int .i64 a0_11, .int .i64 a0_12, .slice A0_13 l0_13.length c0_13] 72 (0, 0))) := ⟨by (iterate 13 ((with_reducible repeat (first | refine bN ?_ _ | refine bD ?_ | refine bA ?_ _)); refine blk_far ?_ NB237_278.out _)); (with_reducible repeat (first | refine bN ?_ _ | refine bD ?_ | refine bA ?_ _)); exact BK237.out⟩
                have n1_ : Aside0 ((((((((((((((w36.setCell ⟨gb278, 0, none⟩ (.int .i64 t264)).setCell ⟨gb278, 1, none⟩ (.int .i64 t265)).setCell ⟨gb278, 2, none⟩ (.int .i64 t266)).setCell ⟨gb278, 3, none⟩ (.int .i64 t267)).setCell ⟨gb278, 4, none⟩ (.int .i64 t268)).setCell ⟨gb278, 5, none⟩ (.int .i64 t269)).setCell ⟨gb278, 6, none⟩ (.int .i64 t270)).setCell ⟨gb278, 7, none⟩ (.int .i64 t271)).setCell ⟨gb278, 8, none⟩ (.int .i64 t272)).setCell ⟨gb278, 9, none⟩ (.bool t273)).setCell ⟨gb278, 10, none⟩ (.int .i64 t274)).setCell ⟨gb278, 11, none⟩ (.int .i64 t275)).setCell ⟨gb278, 12, none⟩ (.int .i64 t276)).heap[gb238]? = some (.cells #[.int .i64 a1_0, .int .i64 a1_1, .bool a1_2, .int .i64 a1_3, .int .i64 a1_4, .int .i64 a1_5, .int .i64 a1_6, .int .i64 a1_7] 77 (0, 0))) := ⟨by (iterate 13 ((with_reducible repeat (first | refine bN ?_ _ | refine bD ?_ | refine bA ?_ _)); refine blk_far ?_ NB238_278.out _)); (with_reducible repeat (first | refine bN ?_ _ | refine bD ?_ | refine bA ?_ _)); exact BK238.out⟩
                have n2_ : Aside0 ((((((((((((((w36.setCell ⟨gb278, 0, none⟩ (.int .i64 t264)).setCell ⟨gb278, 1, none⟩ (.int .i64 t265)).setCell ⟨gb278, 2, none⟩ (.int .i64 t266)).setCell ⟨gb278, 3, none⟩ (.int .i64 t267)).setCell ⟨gb278, 4, none⟩ (.int .i64 t268)).setCell ⟨gb278, 5, none⟩ (.int .i64 t269)).setCell ⟨gb278, 6, none⟩ (.int .i64 t270)).setCell ⟨gb278, 7, none⟩ (.int .i64 t271)).setCell ⟨gb278, 8, none⟩ (.int .i64 t272)).setCell ⟨gb278, 9, none⟩ (.bool t273)).setCell ⟨gb278, 10, none⟩ (.int .i64 t274)).setCell ⟨gb278, 11, none⟩ (.int .i64 t275)).setCell ⟨gb278, 12, none⟩ (.int .i64 t276)).heap[gb252]? = some (.cells #[.int .i64 t239, .int .i64 t240, .int .i64 t241, .int .i64 t242, .int .i64 t243, .int .i64 t244, .int .i64 t245, .int .i64 t246, .int .i64 t247, .bool t248, .int .i64 t249, .int .i64 t250, .int .i64 t251] 58 (0, 0))) := ⟨by (iterate 13 ((with_reducible repeat (first | refine bN ?_ _ | refine bD ?_ | refine bA ?_ _)); refine blk_far ?_ NB252_278.out _)); (with_reducible repeat (first | refine bN ?_ _ | refine bD ?_ | refine bA ?_ _)); exact BK252.out⟩
                have n3_ : Aside0 ((((((((((((((w36.setCell ⟨gb278, 0, none⟩ (.int .i64 t264)).setCell ⟨gb278, 1, none⟩ (.int .i64 t265)).setCell ⟨gb278, 2, none⟩ (.int .i64 t266)).setCell ⟨gb278, 3, none⟩ (.int .i64 t267)).setCell ⟨gb278, 4, none⟩ (.int .i64 t268)).setCell ⟨gb278, 5, none⟩ (.int .i64 t269)).setCell ⟨gb278, 6, none⟩ (.int .i64 t270)).setCell ⟨gb278, 7, none⟩ (.int .i64 t271)).setCell ⟨gb278, 8, none⟩ (.int .i64 t272)).setCell ⟨gb278, 9, none⟩ (.bool t273)).setCell ⟨gb278, 10, none⟩ (.int .i64 t274)).setCell ⟨gb278, 11, none⟩ (.int .i64 t275)).setCell ⟨gb278, 12, none⟩ (.int .i64 t276)).heap[gb278]? = some (.cells #[.int .i64 t264, .int .i64 t265, .int .i64 t266, .int .i64 t267, .int .i64 t268, .int .i64 t269, .int .i64 t270, .int .i64 t271, .int .i64 t272, .bool t273, .int .i64 t274, .int .i64 t275, .int .i64 t276] 58 (0, 0))) := ⟨by (with_reducible repeat (first | refine bN ?_ _ | refine bD ?_ | refine bA ?_ _)); apply bq; (with_reducible repeat (first | refine bN ?_ _ | refine bD ?_ | refine bA ?_ _)); apply bq; (with_reducible repeat (first | refine bN ?_ _ | refine bD ?_ | refine bA ?_ _)); apply bq; (with_reducible repeat (first | refine bN ?_ _ | refine bD ?_ | refine bA ?_ _)); apply bq; (with_reducible repeat (first | refine bN ?_ _ | refine bD ?_ | refine bA ?_ _)); apply bq; (with_reducible repeat (first | refine bN ?_ _ | refine bD ?_ | refine bA ?_ _)); apply bq; (with_reducible repeat (first | refine bN ?_ _ | refine bD ?_ | refine bA ?_ _)); apply bq; (with_reducible repeat (first | refine bN ?_ _ | refine bD ?_ | refine bA ?_ _)); apply bq; (with_reducible repeat (first | refine bN ?_ _ | refine bD ?_ | refine bA ?_ _)); apply bq; (with_reducible repeat (first | refine bN ?_ _ | refine bD ?_ | refine bA ?_ _)); apply bq; (with_reducible repeat (first | refine bN ?_ _ | refine bD ?_ | refine bA ?_ _)); apply bq; (with_reducible repeat (first | refine bN ?_ _ | refine bD ?_ | refine bA ?_ _)); apply bq; (with_reducible repeat (first | refine bN ?_ _ | refine bD ?_ | refine bA ?_ _)); apply bq; (with_reducible repeat (first | refine bN ?_ _ | refine bD ?_ | refine bA ?_ _)); exact BK278.out; all_goals rfl⟩
                have n4_ : Aside0 (Below w.heap.size w (((((((((((((w36.setCell ⟨gb278, 0, none⟩ (.int .i64 t264)).setCell ⟨gb278, 1, none⟩ (.int .i64 t265)).setCell ⟨gb278, 2, none⟩ (.int .i64 t266)).setCell ⟨gb278, 3, none⟩ (.int .i64 t267)).setCell ⟨gb278, 4, none⟩ (.int .i64 t268)).setCell ⟨gb278, 5, none⟩ (.int .i64 t269)).setCell ⟨gb278, 6, none⟩ (.int .i64 t270)).setCell ⟨gb278, 7, none⟩ (.int .i64 t271)).setCell ⟨gb278, 8, none⟩ (.int .i64 t272)).setCell ⟨gb278, 9, none⟩ (.bool t273)).setCell ⟨gb278, 10, none⟩ (.int .i64 t274)).setCell ⟨gb278, 11, none⟩ (.int .i64 t275)).setCell ⟨gb278, 12, none⟩ (.int .i64 t276))) := ⟨by repeat (first | (with_reducible first | exact HB.out | apply pA | apply pN | apply pD | refine pS ?_ GE237.out | refine pS ?_ GE238.out | refine pS ?_ GE252.out | refine pS ?_ GE278.out) | exact HB.out)⟩
                (try clear BK237)
                (try clear BK238)
                (try clear BK252)
                (try clear BK278)
                (try clear HB)
                generalize (((((((((((((w36.setCell ⟨gb278, 0, none⟩ (.int .i64 t264)).setCell ⟨gb278, 1, none⟩ (.int .i64 t265)).setCell ⟨gb278, 2, none⟩ (.int .i64 t266)).setCell ⟨gb278, 3, none⟩ (.int .i64 t267)).setCell ⟨gb278, 4, none⟩ (.int .i64 t268)).setCell ⟨gb278, 5, none⟩ (.int .i64 t269)).setCell ⟨gb278, 6, none⟩ (.int .i64 t270)).setCell ⟨gb278, 7, none⟩ (.int .i64 t271)).setCell ⟨gb278, 8, none⟩ (.int .i64 t272)).setCell ⟨gb278, 9, none⟩ (.bool t273)).setCell ⟨gb278, 10, none⟩ (.int .i64 t274)).setCell ⟨gb278, 11, none⟩ (.int .i64 t275)).setCell ⟨gb278, 12, none⟩ (.int .i64 t276)) = w58 at n0_ n1_ n2_ n3_ n4_ ⊢
                have BK237 := n0_
                have BK238 := n1_
                have BK252 := n2_
                have BK278 := n3_
                have HB := n4_
                clear n0_ n1_ n2_ n3_ n4_
                have n0_ := Aside0.mk (blk_drew BK237.out)
                have n1_ := Aside0.mk (blk_drew BK238.out)
                have n2_ := Aside0.mk (blk_drew BK252.out)
                have n3_ := Aside0.mk (blk_drew BK278.out)
                have n4_ := Aside0.mk (below_drew1 HB.out)
                clear BK237
                clear BK238
                clear BK252
                clear BK278
                clear HB
                have BK237 := n0_
                have BK238 := n1_
                have BK252 := n2_
                have BK278 := n3_
                have HB := n4_
                clear n0_ n1_ n2_ n3_ n4_
                refine start_ (n := 22) (S := fun w' => w'.cell? ⟨gb238, 0, none⟩ = some (.int .i64 a1_0) ∧ w'.cell? ⟨gb238, 1, none⟩ = some (.int .i64 a1_1) ∧ w'.cell? ⟨gb238, 2, none⟩ = some (.bool a1_2) ∧ w'.cell? ⟨gb238, 3, none⟩ = some (.int .i64 a1_3) ∧ w'.cell? ⟨gb238, 4, none⟩ = some (.int .i64 a1_4) ∧ w'.cell? ⟨gb238, 5, none⟩ = some (.int .i64 a1_5) ∧ w'.cell? ⟨gb238, 6, none⟩ = some (.int .i64 a1_6) ∧ w'.cell? ⟨gb238, 7, none⟩ = some (.int .i64 a1_7)) (ds := []) #[false, false, false, false, false, false, false, false, false, false, false, false, false, false, false, false, false, false, false, false, false, false] (by kernel_rfl) rfl rfl (bc8 BK238.out) (fun hHeld => ?_); refine with_tabW hourglasslaw21_CallWaits.tab7 hourglasslaw21_CallWaits.bits7 (fun HT_ HW_ => ?_)
                generalize w58.drew = w59 at BK237 BK238 BK252 BK278 HB hHeld ⊢
                refine pure_ (i := 0) (N := some 56) (v := ?_) (a' := ?_) #[true, false, false, false, false, false, false, false, false, false, false, false, false, false, false, false, false, false, false, false, false, false] rfl rfl (any_of HT_.out (by kernel_rfl)) (fun _ _ _ h => h) (Or.inl ⟨by rfl, ?_⟩) ?_ ?_
                rotate_left
                · intro w'
                  go_simp
                  with_reducible rfl
                rotate_left
                · simp only [Act.put, List.setIfInBounds_toArray, List.set_cons_zero, List.set_cons_succ, i64_w, i32_w]
                  rfl
                refine pure_ (i := 2) (N := some 58) (v := ?_) (a' := ?_) #[true, false, true, false, false, false, false, false, false, false, false, false, false, false, false, false, false, false, false, false, false, false] rfl rfl (any_of HT_.out (by kernel_rfl)) (fun _ _ _ h => h) (Or.inl ⟨by rfl, ?_⟩) ?_ ?_
                rotate_left
                · intro w'
                  go_simp
                  with_reducible rfl
                rotate_left
                · simp only [Act.put, List.setIfInBounds_toArray, List.set_cons_zero, List.set_cons_succ, i64_w, i32_w]
                  rfl
                refine take_ (i := 3) (N := some 59) (v := ?_) (a' := ?_) #[true, false, true, true, false, false, false, false, false, false, false, false, false, false, false, false, false, false, false, false, false, false] rfl rfl (take_ofW HT_.out HW_.out (by kernel_rfl)) (fun _ _ _ h => h) (Or.inl ⟨by rfl, ?_⟩) hHeld ?_ ?_
                rotate_left
                · rintro w' ⟨s0, s1, s2, s3, s4, s5, s6, s7⟩
                  go_simp
                  with_reducible rfl
                rotate_left
                · simp only [Act.put, List.setIfInBounds_toArray, List.set_cons_zero, List.set_cons_succ, i64_w, i32_w]
                  rfl
                refine one_ (i := 1) (N := some 57) #[true, true, true, true, false, false, false, false, false, false, false, false, false, false, false, false, false, false, false, false, false, false] rfl rfl (one_of HT_.out (by kernel_rfl)) (by decide) (fun K hK => ?_)
                refine goes_ Try.func20 (by kernel_rfl) rfl #[.int .i64 a2] (by rfl) rfl rfl (by (try simp only [List.map_toArray, List.map_cons, List.map_nil]); first | done | rfl | (simp only [List.length_drop, List.length_take]; rfl)) ?_
                with_reducible refine (hourglassref01_Clamp.calls a2 t281 _ A50.out).mono ?_
                rintro e w' ⟨rfl, ⟨nd, rfl⟩⟩
                refine ⟨_, rfl, ?_⟩
                refine hK.out _ _ (bc8 BK238.out) (fun hHeld => ?_)
                clear hK K
                refine norm_ (a' := ?_) ?_ ?_
                rotate_left
                · show Act.put _ (some 57) _ = _
                  simp only [Act.put, List.setIfInBounds_toArray, List.set_cons_zero, List.set_cons_succ, i64_w, i32_w]
                  rfl
                refine one_ (i := 4) (N := some 60) #[true, true, true, true, true, false, false, false, false, false, false, false, false, false, false, false, false, false, false, false, false, false] rfl rfl (one_of HT_.out (by kernel_rfl)) (by decide) (fun K hK => ?_)
                refine goes_ Try.func20 (by kernel_rfl) rfl #[.int .i64 a1_5] (by rfl) rfl rfl (by (try simp only [List.map_toArray, List.map_cons, List.map_nil]); first | done | rfl | (simp only [List.length_drop, List.length_take]; rfl)) ?_
                with_reducible refine (hourglassref01_Clamp.calls a1_5 t282 _ A51.out).mono ?_
                rintro e w' ⟨rfl, ⟨nd, rfl⟩⟩
                refine ⟨_, rfl, ?_⟩
                refine hK.out _ _ (bc8 BK238.out) (fun hHeld => ?_)
                clear hK K
                refine norm_ (a' := ?_) ?_ ?_
                rotate_left
                · show Act.put _ (some 60) _ = _
                  simp only [Act.put, List.setIfInBounds_toArray, List.set_cons_zero, List.set_cons_succ, i64_w, i32_w]
                  rfl
                refine pure_ (i := 5) (N := some 61) (v := ?_) (a' := ?_) #[true, true, true, true, true, true, false, false, false, false, false, false, false, false, false, false, false, false, false, false, false, false] rfl rfl (any_of HT_.out (by kernel_rfl)) (fun _ _ _ h => h) (Or.inl ⟨by rfl, ?_⟩) ?_ ?_
                rotate_left
                · intro w'
                  go_simp
                  with_reducible rfl
                rotate_left
                · simp only [Act.put, List.setIfInBounds_toArray, List.set_cons_zero, List.set_cons_succ, i64_w, i32_w]
                  rfl
                refine pure_ (i := 6) (N := some 62) (v := ?_) (a' := ?_) #[true, true, true, true, true, true, true, false, false, false, false, false, false, false, false, false, false, false, false, false, false, false] rfl rfl (any_of HT_.out (by kernel_rfl)) (fun _ _ _ h => h) (Or.inl ⟨by rfl, ?_⟩) ?_ ?_
                rotate_left
                · intro w'
                  go_simp
                  with_reducible rfl
                rotate_left
                · simp only [Act.put, List.setIfInBounds_toArray, List.set_cons_zero, List.set_cons_succ, i64_w, i32_w]
                  rfl
                refine pure_ (i := 7) (N := some 63) (v := ?_) (a' := ?_) #[true, true, true, true, true, true, true, true, false, false, false, false, false, false, false, false, false, false, false, false, false, false] rfl rfl (any_of HT_.out (by kernel_rfl)) (fun _ _ _ h => h) (Or.inl ⟨by rfl, ?_⟩) ?_ ?_
                rotate_left
                · intro w'
                  go_simp
                  with_reducible rfl
                rotate_left
                · simp only [Act.put, List.setIfInBounds_toArray, List.set_cons_zero, List.set_cons_succ, i64_w, i32_w]
                  rfl
                refine take_ (i := 8) (N := some 64) (v := ?_) (a' := ?_) #[true, true, true, true, true, true, true, true, true, false, false, false, false, false, false, false, false, false, false, false, false, false] rfl rfl (take_ofW HT_.out HW_.out (by kernel_rfl)) (fun _ _ _ h => h) (Or.inl ⟨by rfl, ?_⟩) hHeld ?_ ?_
                rotate_left
                · rintro w' ⟨s0, s1, s2, s3, s4, s5, s6, s7⟩
                  go_simp
                  with_reducible rfl
                rotate_left
                · simp only [Act.put, List.setIfInBounds_toArray, List.set_cons_zero, List.set_cons_succ, i64_w, i32_w]
                  rfl
                refine pure_ (i := 9) (N := some 65) (v := ?_) (a' := ?_) #[true, true, true, true, true, true, true, true, true, true, false, false, false, false, false, false, false, false, false, false, false, false] rfl rfl (any_of HT_.out (by kernel_rfl)) (fun _ _ _ h => h) (Or.inl ⟨by rfl, ?_⟩) ?_ ?_
                rotate_left
                · intro w'
                  go_simp
                  with_reducible rfl
                rotate_left
                · simp only [Act.put, List.setIfInBounds_toArray, List.set_cons_zero, List.set_cons_succ, i64_w, i32_w]
                  rfl
                refine pure_ (i := 10) (N := some 66) (v := ?_) (a' := ?_) #[true, true, true, true, true, true, true, true, true, true, true, false, false, false, false, false, false, false, false, false, false, false] rfl rfl (any_of HT_.out (by kernel_rfl)) (fun _ _ _ h => h) (Or.inl ⟨by rfl, ?_⟩) ?_ ?_
                rotate_left
                · intro w'
                  go_simp
                  with_reducible rfl
                rotate_left
                · simp only [Act.put, List.setIfInBounds_toArray, List.set_cons_zero, List.set_cons_succ, i64_w, i32_w]
                  rfl
                refine pure_ (i := 11) (N := some 67) (v := ?_) (a' := ?_) #[true, true, true, true, true, true, true, true, true, true, true, true, false, false, false, false, false, false, false, false, false, false] rfl rfl (any_of HT_.out (by kernel_rfl)) (fun _ _ _ h => h) (Or.inl ⟨by rfl, ?_⟩) ?_ ?_
                rotate_left
                · intro w'
                  go_simp
                  with_reducible rfl
                rotate_left
                · simp only [Act.put, List.setIfInBounds_toArray, List.set_cons_zero, List.set_cons_succ, i64_w, i32_w]
                  rfl
                refine pure_ (i := 13) (N := some 69) (v := ?_) (a' := ?_) #[true, true, true, true, true, true, true, true, true, true, true, true, false, true, false, false, false, false, false, false, false, false] rfl rfl (any_of HT_.out (by kernel_rfl)) (fun _ _ _ h => h) (Or.inl ⟨by rfl, ?_⟩) ?_ ?_
                rotate_left
                · intro w'
                  go_simp
                  with_reducible rfl
                rotate_left
                · simp only [Act.put, List.setIfInBounds_toArray, List.set_cons_zero, List.set_cons_succ, i64_w, i32_w]
                  rfl
                refine pure_ (i := 15) (N := some 71) (v := ?_) (a' := ?_) #[true, true, true, true, true, true, true, true, true, true, true, true, false, true, false, true, false, false, false, false, false, false] rfl rfl (any_of HT_.out (by kernel_rfl)) (fun _ _ _ h => h) (Or.inl ⟨by rfl, ?_⟩) ?_ ?_
                rotate_left
                · intro w'
                  go_simp
                  with_reducible rfl
                rotate_left
                · simp only [Act.put, List.setIfInBounds_toArray, List.set_cons_zero, List.set_cons_succ, i64_w, i32_w]
                  rfl
                refine take_ (i := 14) (N := some 70) (v := ?_) (a' := ?_) #[true, true, true, true, true, true, true, true, true, true, true, true, false, true, true, true, false, false, false, false, false, false] rfl rfl (take_ofW HT_.out HW_.out (by kernel_rfl)) (fun _ _ _ h => h) (Or.inl ⟨by rfl, ?_⟩) hHeld ?_ ?_
                rotate_left
                · rintro w' ⟨s0, s1, s2, s3, s4, s5, s6, s7⟩
                  go_simp
                  with_reducible rfl
                rotate_left
                · simp only [Act.put, List.setIfInBounds_toArray, List.set_cons_zero, List.set_cons_succ, i64_w, i32_w]
                  rfl
                refine take_ (i := 16) (N := some 72) (v := ?_) (a' := ?_) #[true, true, true, true, true, true, true, true, true, true, true, true, false, true, true, true, true, false, false, false, false, false] rfl rfl (take_ofW HT_.out HW_.out (by kernel_rfl)) (fun _ _ _ h => h) (Or.inl ⟨by rfl, ?_⟩) hHeld ?_ ?_
                rotate_left
                · rintro w' ⟨s0, s1, s2, s3, s4, s5, s6, s7⟩
                  go_simp
                  with_reducible rfl
                rotate_left
                · simp only [Act.put, List.setIfInBounds_toArray, List.set_cons_zero, List.set_cons_succ, i64_w, i32_w]
                  rfl
                refine one_ (i := 12) (N := some 68) #[true, true, true, true, true, true, true, true, true, true, true, true, true, true, true, true, true, false, false, false, false, false] rfl rfl (one_of HT_.out (by kernel_rfl)) (by decide) (fun K hK => ?_)
                refine goes_ Try.func20 (by kernel_rfl) rfl #[.int .i64 a2] (by rfl) rfl rfl (by (try simp only [List.map_toArray, List.map_cons, List.map_nil]); first | done | rfl | (simp only [List.length_drop, List.length_take]; rfl)) ?_
                with_reducible refine (hourglassref01_Clamp.calls a2 t283 _ A56.out).mono ?_
                rintro e w' ⟨rfl, ⟨nd, rfl⟩⟩
                refine ⟨_, rfl, ?_⟩
                refine hK.out _ _ (bc8 BK238.out) (fun hHeld => ?_)
                clear hK K
                refine norm_ (a' := ?_) ?_ ?_
                rotate_left
                · show Act.put _ (some 68) _ = _
                  simp only [Act.put, List.setIfInBounds_toArray, List.set_cons_zero, List.set_cons_succ, i64_w, i32_w]
                  rfl
                refine one_ (i := 17) (N := some 73) #[true, true, true, true, true, true, true, true, true, true, true, true, true, true, true, true, true, true, false, false, false, false] rfl rfl (one_of HT_.out (by kernel_rfl)) (by decide) (fun K hK => ?_)
                refine goes_ Try.func42 (by kernel_rfl) rfl #[.int .i64 a1_5, .int .i64 a1_3] (by rfl) rfl rfl (by (try simp only [List.map_toArray, List.map_cons, List.map_nil]); first | done | rfl | (simp only [List.length_drop, List.length_take]; rfl)) ?_
                with_reducible refine (hourglassref01_Add.calls a1_5 a1_3 t284 _ A57.out).mono ?_
                rintro e w' ⟨rfl, ⟨nd, rfl⟩⟩
                refine ⟨_, rfl, ?_⟩
                refine hK.out _ _ (bc8 BK238.out) (fun hHeld => ?_)
                clear hK K
                refine norm_ (a' := ?_) ?_ ?_
                rotate_left
                · show Act.put _ (some 73) _ = _
                  simp only [Act.put, List.setIfInBounds_toArray, List.set_cons_zero, List.set_cons_succ, i64_w, i32_w]
                  rfl
                refine pure_ (i := 18) (N := some 74) (v := ?_) (a' := ?_) #[true, true, true, true, true, true, true, true, true, true, true, true, true, true, true, true, true, true, true, false, false, false] rfl rfl (any_of HT_.out (by kernel_rfl)) (fun _ _ _ h => h) (Or.inl ⟨by rfl, ?_⟩) ?_ ?_
                rotate_left
                · intro w'
                  go_simp
                  with_reducible rfl
                rotate_left
                · simp only [Act.put, List.setIfInBounds_toArray, List.set_cons_zero, List.set_cons_succ, i64_w, i32_w]
                  rfl
                refine pure_ (i := 19) (N := some 75) (v := ?_) (a' := ?_) #[true, true, true, true, true, true, true, true, true, true, true, true, true, true, true, true, true, true, true, true, false, false] rfl rfl (any_of HT_.out (by kernel_rfl)) (fun _ _ _ h => h) (Or.inl ⟨by rfl, ?_⟩) ?_ ?_
                rotate_left
                · intro w'
                  go_simp
                  with_reducible rfl
                rotate_left
                · simp only [Act.put, List.setIfInBounds_toArray, List.set_cons_zero, List.set_cons_succ, i64_w, i32_w]
                  rfl
                refine pure_ (i := 20) (N := some 76) (v := ?_) (a' := ?_) #[true, true, true, true, true, true, true, true, true, true, true, true, true, true, true, true, true, true, true, true, true, false] rfl rfl (any_of HT_.out (by kernel_rfl)) (fun _ _ _ h => h) (Or.inl ⟨by rfl, ?_⟩) ?_ ?_
                rotate_left
                · intro w'
                  go_simp
                  with_reducible rfl
                rotate_left
                · simp only [Act.put, List.setIfInBounds_toArray, List.set_cons_zero, List.set_cons_succ, i64_w, i32_w]
                  rfl
                refine pure_ (i := 21) (N := some 14) (v := ?_) (a' := ?_) #[true, true, true, true, true, true, true, true, true, true, true, true, true, true, true, true, true, true, true, true, true, true] rfl rfl (any_of HT_.out (by kernel_rfl)) (fun _ _ _ h => h) (Or.inl ⟨by rfl, ?_⟩) ?_ ?_
                rotate_left
                · intro w'
                  go_simp
                  with_reducible rfl
                rotate_left
                · simp only [Act.put, List.setIfInBounds_toArray, List.set_cons_zero, List.set_cons_succ, i64_w, i32_w]
                  rfl
                refine done_ (done_of HT_.out (by kernel_rfl)) ?_
                try go_wp2
                go_meet
                case rel => exact ⟨_, (decide (t283 < t284)), (by first | rfl | (simp; done) | (simp [*]; done)), H', ⟨by have := HJ6.out; first | omega | exact Nat.le_refl _⟩, ⟨by (with_reducible repeat (first | refine bN ?_ _ | refine bD ?_ | refine bA ?_ _)); exact BK237.out⟩, ⟨by (with_reducible repeat (first | refine bN ?_ _ | refine bD ?_ | refine bA ?_ _)); exact BK238.out⟩, ⟨by (with_reducible repeat (first | refine bN ?_ _ | refine bD ?_ | refine bA ?_ _)); exact BK252.out⟩, ⟨by (with_reducible repeat (first | refine bN ?_ _ | refine bD ?_ | refine bA ?_ _)); exact BK278.out⟩, ⟨by repeat (first | (with_reducible first | exact HB.out | apply pA | apply pN | apply pD | refine pS ?_ GE237.out | refine pS ?_ GE238.out | refine pS ?_ GE252.out | refine pS ?_ GE278.out) | exact HB.out)⟩⟩
              · rw [if_neg c55] at H
                have c55b0 : decide (0 ≤ a1_3) = false := decide_eq_false c55
                clear c55
                have H' := Aside0.mk H
                clear H
                try go_wp2
                have n0_ : Aside0 ((((((((((((((w36.setCell ⟨gb278, 0, none⟩ (.int .i64 t264)).setCell ⟨gb278, 1, none⟩ (.int .i64 t265)).setCell ⟨gb278, 2, none⟩ (.int .i64 t266)).setCell ⟨gb278, 3, none⟩ (.int .i64 t267)).setCell ⟨gb278, 4, none⟩ (.int .i64 t268)).setCell ⟨gb278, 5, none⟩ (.int .i64 t269)).setCell ⟨gb278, 6, none⟩ (.int .i64 t270)).setCell ⟨gb278, 7, none⟩ (.int .i64 t271)).setCell ⟨gb278, 8, none⟩ (.int .i64 t272)).setCell ⟨gb278, 9, none⟩ (.bool t273)).setCell ⟨gb278, 10, none⟩ (.int .i64 t274)).setCell ⟨gb278, 11, none⟩ (.int .i64 t275)).setCell ⟨gb278, 12, none⟩ (.int .i64 t276)).heap[gb237]? = some (.cells #[.int .i64 a0_0, .int .i64 a0_1, .int .i64 a0_2, .int .i64 a0_3, .int .i64 a0_4, .int .i64 a0_5, .int .i64 a0_6, .int .i64 a0_7, .int .i64 a0_8, .int .i64 a0_9, .int .i64 a0_10, .int .i64 a0_11, .int .i64 a0_12, .slice A0_13 l0_13.length c0_13] 72 (0, 0))) := ⟨by (iterate 13 ((with_reducible repeat (first | refine bN ?_ _ | refine bD ?_ | refine bA ?_ _)); refine blk_far ?_ NB237_278.out _)); (with_reducible repeat (first | refine bN ?_ _ | refine bD ?_ | refine bA ?_ _)); exact BK237.out⟩
                have n1_ : Aside0 ((((((((((((((w36.setCell ⟨gb278, 0, none⟩ (.int .i64 t264)).setCell ⟨gb278, 1, none⟩ (.int .i64 t265)).setCell ⟨gb278, 2, none⟩ (.int .i64 t266)).setCell ⟨gb278, 3, none⟩ (.int .i64 t267)).setCell ⟨gb278, 4, none⟩ (.int .i64 t268)).setCell ⟨gb278, 5, none⟩ (.int .i64 t269)).setCell ⟨gb278, 6, none⟩ (.int .i64 t270)).setCell ⟨gb278, 7, none⟩ (.int .i64 t271)).setCell ⟨gb278, 8, none⟩ (.int .i64 t272)).setCell ⟨gb278, 9, none⟩ (.bool t273)).setCell ⟨gb278, 10, none⟩ (.int .i64 t274)).setCell ⟨gb278, 11, none⟩ (.int .i64 t275)).setCell ⟨gb278, 12, none⟩ (.int .i64 t276)).heap[gb238]? = some (.cells #[.int .i64 a1_0, .int .i64 a1_1, .bool a1_2, .int .i64 a1_3, .int .i64 a1_4, .int .i64 a1_5, .int .i64 a1_6, .int .i64 a1_7] 77 (0, 0))) := ⟨by (iterate 13 ((with_reducible repeat (first | refine bN ?_ _ | refine bD ?_ | refine bA ?_ _)); refine blk_far ?_ NB238_278.out _)); (with_reducible repeat (first | refine bN ?_ _ | refine bD ?_ | refine bA ?_ _)); exact BK238.out⟩
                have n2_ : Aside0 ((((((((((((((w36.setCell ⟨gb278, 0, none⟩ (.int .i64 t264)).setCell ⟨gb278, 1, none⟩ (.int .i64 t265)).setCell ⟨gb278, 2, none⟩ (.int .i64 t266)).setCell ⟨gb278, 3, none⟩ (.int .i64 t267)).setCell ⟨gb278, 4, none⟩ (.int .i64 t268)).setCell ⟨gb278, 5, none⟩ (.int .i64 t269)).setCell ⟨gb278, 6, none⟩ (.int .i64 t270)).setCell ⟨gb278, 7, none⟩ (.int .i64 t271)).setCell ⟨gb278, 8, none⟩ (.int .i64 t272)).setCell ⟨gb278, 9, none⟩ (.bool t273)).setCell ⟨gb278, 10, none⟩ (.int .i64 t274)).setCell ⟨gb278, 11, none⟩ (.int .i64 t275)).setCell ⟨gb278, 12, none⟩ (.int .i64 t276)).heap[gb252]? = some (.cells #[.int .i64 t239, .int .i64 t240, .int .i64 t241, .int .i64 t242, .int .i64 t243, .int .i64 t244, .int .i64 t245, .int .i64 t246, .int .i64 t247, .bool t248, .int .i64 t249, .int .i64 t250, .int .i64 t251] 58 (0, 0))) := ⟨by (iterate 13 ((with_reducible repeat (first | refine bN ?_ _ | refine bD ?_ | refine bA ?_ _)); refine blk_far ?_ NB252_278.out _)); (with_reducible repeat (first | refine bN ?_ _ | refine bD ?_ | refine bA ?_ _)); exact BK252.out⟩
                have n3_ : Aside0 ((((((((((((((w36.setCell ⟨gb278, 0, none⟩ (.int .i64 t264)).setCell ⟨gb278, 1, none⟩ (.int .i64 t265)).setCell ⟨gb278, 2, none⟩ (.int .i64 t266)).setCell ⟨gb278, 3, none⟩ (.int .i64 t267)).setCell ⟨gb278, 4, none⟩ (.int .i64 t268)).setCell ⟨gb278, 5, none⟩ (.int .i64 t269)).setCell ⟨gb278, 6, none⟩ (.int .i64 t270)).setCell ⟨gb278, 7, none⟩ (.int .i64 t271)).setCell ⟨gb278, 8, none⟩ (.int .i64 t272)).setCell ⟨gb278, 9, none⟩ (.bool t273)).setCell ⟨gb278, 10, none⟩ (.int .i64 t274)).setCell ⟨gb278, 11, none⟩ (.int .i64 t275)).setCell ⟨gb278, 12, none⟩ (.int .i64 t276)).heap[gb278]? = some (.cells #[.int .i64 t264, .int .i64 t265, .int .i64 t266, .int .i64 t267, .int .i64 t268, .int .i64 t269, .int .i64 t270, .int .i64 t271, .int .i64 t272, .bool t273, .int .i64 t274, .int .i64 t275, .int .i64 t276] 58 (0, 0))) := ⟨by (with_reducible repeat (first | refine bN ?_ _ | refine bD ?_ | refine bA ?_ _)); apply bq; (with_reducible repeat (first | refine bN ?_ _ | refine bD ?_ | refine bA ?_ _)); apply bq; (with_reducible repeat (first | refine bN ?_ _ | refine bD ?_ | refine bA ?_ _)); apply bq; (with_reducible repeat (first | refine bN ?_ _ | refine bD ?_ | refine bA ?_ _)); apply bq; (with_reducible repeat (first | refine bN ?_ _ | refine bD ?_ | refine bA ?_ _)); apply bq; (with_reducible repeat (first | refine bN ?_ _ | refine bD ?_ | refine bA ?_ _)); apply bq; (with_reducible repeat (first | refine bN ?_ _ | refine bD ?_ | refine bA ?_ _)); apply bq; (with_reducible repeat (first | refine bN ?_ _ | refine bD ?_ | refine bA ?_ _)); apply bq; (with_reducible repeat (first | refine bN ?_ _ | refine bD ?_ | refine bA ?_ _)); apply bq; (with_reducible repeat (first | refine bN ?_ _ | refine bD ?_ | refine bA ?_ _)); apply bq; (with_reducible repeat (first | refine bN ?_ _ | refine bD ?_ | refine bA ?_ _)); apply bq; (with_reducible repeat (first | refine bN ?_ _ | refine bD ?_ | refine bA ?_ _)); apply bq; (with_reducible repeat (first | refine bN ?_ _ | refine bD ?_ | refine bA ?_ _)); apply bq; (with_reducible repeat (first | refine bN ?_ _ | refine bD ?_ | refine bA ?_ _)); exact BK278.out; all_goals rfl⟩
                have n4_ : Aside0 (Below w.heap.size w (((((((((((((w36.setCell ⟨gb278, 0, none⟩ (.int .i64 t264)).setCell ⟨gb278, 1, none⟩ (.int .i64 t265)).setCell ⟨gb278, 2, none⟩ (.int .i64 t266)).setCell ⟨gb278, 3, none⟩ (.int .i64 t267)).setCell ⟨gb278, 4, none⟩ (.int .i64 t268)).setCell ⟨gb278, 5, none⟩ (.int .i64 t269)).setCell ⟨gb278, 6, none⟩ (.int .i64 t270)).setCell ⟨gb278, 7, none⟩ (.int .i64 t271)).setCell ⟨gb278, 8, none⟩ (.int .i64 t272)).setCell ⟨gb278, 9, none⟩ (.bool t273)).setCell ⟨gb278, 10, none⟩ (.int .i64 t274)).setCell ⟨gb278, 11, none⟩ (.int .i64 t275)).setCell ⟨gb278, 12, none⟩ (.int .i64 t276))) := ⟨by repeat (first | (with_reducible first | exact HB.out | apply pA | apply pN | apply pD | refine pS ?_ GE237.out | refine pS ?_ GE238.out | refine pS ?_ GE252.out | refine pS ?_ GE278.out) | exact HB.out)⟩
                (try clear BK237)
                (try clear BK238)
                (try clear BK252)
                (try clear BK278)
                (try clear HB)
                generalize (((((((((((((w36.setCell ⟨gb278, 0, none⟩ (.int .i64 t264)).setCell ⟨gb278, 1, none⟩ (.int .i64 t265)).setCell ⟨gb278, 2, none⟩ (.int .i64 t266)).setCell ⟨gb278, 3, none⟩ (.int .i64 t267)).setCell ⟨gb278, 4, none⟩ (.int .i64 t268)).setCell ⟨gb278, 5, none⟩ (.int .i64 t269)).setCell ⟨gb278, 6, none⟩ (.int .i64 t270)).setCell ⟨gb278, 7, none⟩ (.int .i64 t271)).setCell ⟨gb278, 8, none⟩ (.int .i64 t272)).setCell ⟨gb278, 9, none⟩ (.bool t273)).setCell ⟨gb278, 10, none⟩ (.int .i64 t274)).setCell ⟨gb278, 11, none⟩ (.int .i64 t275)).setCell ⟨gb278, 12, none⟩ (.int .i64 t276)) = w60 at n0_ n1_ n2_ n3_ n4_ ⊢
                have BK237 := n0_
                have BK238 := n1_
                have BK252 := n2_
                have BK278 := n3_
                have HB := n4_
                clear n0_ n1_ n2_ n3_ n4_
                have n0_ := Aside0.mk (blk_drew BK237.out)
                have n1_ := Aside0.mk (blk_drew BK238.out)
                have n2_ := Aside0.mk (blk_drew BK252.out)
                have n3_ := Aside0.mk (blk_drew BK278.out)
                have n4_ := Aside0.mk (below_drew1 HB.out)
                clear BK237
                clear BK238
                clear BK252
                clear BK278
                clear HB
                have BK237 := n0_
                have BK238 := n1_
                have BK252 := n2_
                have BK278 := n3_
                have HB := n4_
                clear n0_ n1_ n2_ n3_ n4_
                refine start_ (n := 22) (S := fun w' => w'.cell? ⟨gb238, 0, none⟩ = some (.int .i64 a1_0) ∧ w'.cell? ⟨gb238, 1, none⟩ = some (.int .i64 a1_1) ∧ w'.cell? ⟨gb238, 2, none⟩ = some (.bool a1_2) ∧ w'.cell? ⟨gb238, 3, none⟩ = some (.int .i64 a1_3) ∧ w'.cell? ⟨gb238, 4, none⟩ = some (.int .i64 a1_4) ∧ w'.cell? ⟨gb238, 5, none⟩ = some (.int .i64 a1_5) ∧ w'.cell? ⟨gb238, 6, none⟩ = some (.int .i64 a1_6) ∧ w'.cell? ⟨gb238, 7, none⟩ = some (.int .i64 a1_7)) (ds := []) #[false, false, false, false, false, false, false, false, false, false, false, false, false, false, false, false, false, false, false, false, false, false] (by kernel_rfl) rfl rfl (bc8 BK238.out) (fun hHeld => ?_); refine with_tabW hourglasslaw21_CallWaits.tab7 hourglasslaw21_CallWaits.bits7 (fun HT_ HW_ => ?_)
                generalize w60.drew = w61 at BK237 BK238 BK252 BK278 HB hHeld ⊢
                refine pure_ (i := 0) (N := some 56) (v := ?_) (a' := ?_) #[true, false, false, false, false, false, false, false, false, false, false, false, false, false, false, false, false, false, false, false, false, false] rfl rfl (any_of HT_.out (by kernel_rfl)) (fun _ _ _ h => h) (Or.inl ⟨by rfl, ?_⟩) ?_ ?_
                rotate_left
                · intro w'
                  go_simp
                  with_reducible rfl
                rotate_left
                · simp only [Act.put, List.setIfInBounds_toArray, List.set_cons_zero, List.set_cons_succ, i64_w, i32_w]
                  rfl
                refine pure_ (i := 2) (N := some 58) (v := ?_) (a' := ?_) #[true, false, true, false, false, false, false, false, false, false, false, false, false, false, false, false, false, false, false, false, false, false] rfl rfl (any_of HT_.out (by kernel_rfl)) (fun _ _ _ h => h) (Or.inl ⟨by rfl, ?_⟩) ?_ ?_
                rotate_left
                · intro w'
                  go_simp
                  with_reducible rfl
                rotate_left
                · simp only [Act.put, List.setIfInBounds_toArray, List.set_cons_zero, List.set_cons_succ, i64_w, i32_w]
                  rfl
                refine take_ (i := 3) (N := some 59) (v := ?_) (a' := ?_) #[true, false, true, true, false, false, false, false, false, false, false, false, false, false, false, false, false, false, false, false, false, false] rfl rfl (take_ofW HT_.out HW_.out (by kernel_rfl)) (fun _ _ _ h => h) (Or.inl ⟨by rfl, ?_⟩) hHeld ?_ ?_
                rotate_left
                · rintro w' ⟨s0, s1, s2, s3, s4, s5, s6, s7⟩
                  go_simp
                  with_reducible rfl
                rotate_left
                · simp only [Act.put, List.setIfInBounds_toArray, List.set_cons_zero, List.set_cons_succ, i64_w, i32_w]
                  rfl
                refine one_ (i := 1) (N := some 57) #[true, true, true, true, false, false, false, false, false, false, false, false, false, false, false, false, false, false, false, false, false, false] rfl rfl (one_of HT_.out (by kernel_rfl)) (by decide) (fun K hK => ?_)
                refine goes_ Try.func20 (by kernel_rfl) rfl #[.int .i64 a2] (by rfl) rfl rfl (by (try simp only [List.map_toArray, List.map_cons, List.map_nil]); first | done | rfl | (simp only [List.length_drop, List.length_take]; rfl)) ?_
                with_reducible refine (hourglassref01_Clamp.calls a2 t281 _ A50.out).mono ?_
                rintro e w' ⟨rfl, ⟨nd, rfl⟩⟩
                refine ⟨_, rfl, ?_⟩
                refine hK.out _ _ (bc8 BK238.out) (fun hHeld => ?_)
                clear hK K
                refine norm_ (a' := ?_) ?_ ?_
                rotate_left
                · show Act.put _ (some 57) _ = _
                  simp only [Act.put, List.setIfInBounds_toArray, List.set_cons_zero, List.set_cons_succ, i64_w, i32_w]
                  rfl
                refine one_ (i := 4) (N := some 60) #[true, true, true, true, true, false, false, false, false, false, false, false, false, false, false, false, false, false, false, false, false, false] rfl rfl (one_of HT_.out (by kernel_rfl)) (by decide) (fun K hK => ?_)
                refine goes_ Try.func20 (by kernel_rfl) rfl #[.int .i64 a1_5] (by rfl) rfl rfl (by (try simp only [List.map_toArray, List.map_cons, List.map_nil]); first | done | rfl | (simp only [List.length_drop, List.length_take]; rfl)) ?_
                with_reducible refine (hourglassref01_Clamp.calls a1_5 t282 _ A51.out).mono ?_
                rintro e w' ⟨rfl, ⟨nd, rfl⟩⟩
                refine ⟨_, rfl, ?_⟩
                refine hK.out _ _ (bc8 BK238.out) (fun hHeld => ?_)
                clear hK K
                refine norm_ (a' := ?_) ?_ ?_
                rotate_left
                · show Act.put _ (some 60) _ = _
                  simp only [Act.put, List.setIfInBounds_toArray, List.set_cons_zero, List.set_cons_succ, i64_w, i32_w]
                  rfl
                refine pure_ (i := 5) (N := some 61) (v := ?_) (a' := ?_) #[true, true, true, true, true, true, false, false, false, false, false, false, false, false, false, false, false, false, false, false, false, false] rfl rfl (any_of HT_.out (by kernel_rfl)) (fun _ _ _ h => h) (Or.inl ⟨by rfl, ?_⟩) ?_ ?_
                rotate_left
                · intro w'
                  go_simp
                  with_reducible rfl
                rotate_left
                · simp only [Act.put, List.setIfInBounds_toArray, List.set_cons_zero, List.set_cons_succ, i64_w, i32_w]
                  rfl
                refine pure_ (i := 6) (N := some 62) (v := ?_) (a' := ?_) #[true, true, true, true, true, true, true, false, false, false, false, false, false, false, false, false, false, false, false, false, false, false] rfl rfl (any_of HT_.out (by kernel_rfl)) (fun _ _ _ h => h) (Or.inl ⟨by rfl, ?_⟩) ?_ ?_
                rotate_left
                · intro w'
                  go_simp
                  with_reducible rfl
                rotate_left
                · simp only [Act.put, List.setIfInBounds_toArray, List.set_cons_zero, List.set_cons_succ, i64_w, i32_w]
                  rfl
                refine pure_ (i := 7) (N := some 63) (v := ?_) (a' := ?_) #[true, true, true, true, true, true, true, true, false, false, false, false, false, false, false, false, false, false, false, false, false, false] rfl rfl (any_of HT_.out (by kernel_rfl)) (fun _ _ _ h => h) (Or.inl ⟨by rfl, ?_⟩) ?_ ?_
                rotate_left
                · intro w'
                  go_simp
                  with_reducible rfl
                rotate_left
                · simp only [Act.put, List.setIfInBounds_toArray, List.set_cons_zero, List.set_cons_succ, i64_w, i32_w]
                  rfl
                refine take_ (i := 8) (N := some 64) (v := ?_) (a' := ?_) #[true, true, true, true, true, true, true, true, true, false, false, false, false, false, false, false, false, false, false, false, false, false] rfl rfl (take_ofW HT_.out HW_.out (by kernel_rfl)) (fun _ _ _ h => h) (Or.inl ⟨by rfl, ?_⟩) hHeld ?_ ?_
                rotate_left
                · rintro w' ⟨s0, s1, s2, s3, s4, s5, s6, s7⟩
                  go_simp
                  with_reducible rfl
                rotate_left
                · simp only [Act.put, List.setIfInBounds_toArray, List.set_cons_zero, List.set_cons_succ, i64_w, i32_w]
                  rfl
                refine pure_ (i := 9) (N := some 65) (v := ?_) (a' := ?_) #[true, true, true, true, true, true, true, true, true, true, false, false, false, false, false, false, false, false, false, false, false, false] rfl rfl (any_of HT_.out (by kernel_rfl)) (fun _ _ _ h => h) (Or.inl ⟨by rfl, ?_⟩) ?_ ?_
                rotate_left
                · intro w'
                  go_simp
                  with_reducible rfl
                rotate_left
                · simp only [Act.put, List.setIfInBounds_toArray, List.set_cons_zero, List.set_cons_succ, i64_w, i32_w]
                  rfl
                refine pure_ (i := 10) (N := some 66) (v := ?_) (a' := ?_) #[true, true, true, true, true, true, true, true, true, true, true, false, false, false, false, false, false, false, false, false, false, false] rfl rfl (any_of HT_.out (by kernel_rfl)) (fun _ _ _ h => h) (Or.inl ⟨by rfl, ?_⟩) ?_ ?_
                rotate_left
                · intro w'
                  go_simp
                  with_reducible rfl
                rotate_left
                · simp only [Act.put, List.setIfInBounds_toArray, List.set_cons_zero, List.set_cons_succ, i64_w, i32_w]
                  rfl
                refine pure_ (i := 11) (N := some 67) (v := undef) (a' := ?_) #[true, true, true, true, true, true, true, true, true, true, true, true, false, false, false, false, false, false, false, false, false, false] rfl rfl (any_of HT_.out (by kernel_rfl)) (fun _ _ _ h => h) (Or.inr ⟨by rfl, rfl⟩) ?_ ?_
                rotate_left
                · simp only [Act.put, List.setIfInBounds_toArray, List.set_cons_zero, List.set_cons_succ, i64_w, i32_w]
                  rfl
                refine pure_ (i := 12) (N := some 68) (v := undef) (a' := ?_) #[true, true, true, true, true, true, true, true, true, true, true, true, true, false, false, false, false, false, false, false, false, false] rfl rfl (any_of HT_.out (by kernel_rfl)) (fun _ _ _ h => h) (Or.inr ⟨by rfl, rfl⟩) ?_ ?_
                rotate_left
                · simp only [Act.put, List.setIfInBounds_toArray, List.set_cons_zero, List.set_cons_succ, i64_w, i32_w]
                  rfl
                refine pure_ (i := 13) (N := some 69) (v := undef) (a' := ?_) #[true, true, true, true, true, true, true, true, true, true, true, true, true, true, false, false, false, false, false, false, false, false] rfl rfl (any_of HT_.out (by kernel_rfl)) (fun _ _ _ h => h) (Or.inr ⟨by rfl, rfl⟩) ?_ ?_
                rotate_left
                · simp only [Act.put, List.setIfInBounds_toArray, List.set_cons_zero, List.set_cons_succ, i64_w, i32_w]
                  rfl
                refine pure_ (i := 14) (N := some 70) (v := undef) (a' := ?_) #[true, true, true, true, true, true, true, true, true, true, true, true, true, true, true, false, false, false, false, false, false, false] rfl rfl (any_of HT_.out (by kernel_rfl)) (fun _ _ _ h => h) (Or.inr ⟨by rfl, rfl⟩) ?_ ?_
                rotate_left
                · simp only [Act.put, List.setIfInBounds_toArray, List.set_cons_zero, List.set_cons_succ, i64_w, i32_w]
                  rfl
                refine pure_ (i := 15) (N := some 71) (v := undef) (a' := ?_) #[true, true, true, true, true, true, true, true, true, true, true, true, true, true, true, true, false, false, false, false, false, false] rfl rfl (any_of HT_.out (by kernel_rfl)) (fun _ _ _ h => h) (Or.inr ⟨by rfl, rfl⟩) ?_ ?_
                rotate_left
                · simp only [Act.put, List.setIfInBounds_toArray, List.set_cons_zero, List.set_cons_succ, i64_w, i32_w]
                  rfl
                refine pure_ (i := 16) (N := some 72) (v := undef) (a' := ?_) #[true, true, true, true, true, true, true, true, true, true, true, true, true, true, true, true, true, false, false, false, false, false] rfl rfl (any_of HT_.out (by kernel_rfl)) (fun _ _ _ h => h) (Or.inr ⟨by rfl, rfl⟩) ?_ ?_
                rotate_left
                · simp only [Act.put, List.setIfInBounds_toArray, List.set_cons_zero, List.set_cons_succ, i64_w, i32_w]
                  rfl
                refine pure_ (i := 17) (N := some 73) (v := undef) (a' := ?_) #[true, true, true, true, true, true, true, true, true, true, true, true, true, true, true, true, true, true, false, false, false, false] rfl rfl (any_of HT_.out (by kernel_rfl)) (fun _ _ _ h => h) (Or.inr ⟨by rfl, rfl⟩) ?_ ?_
                rotate_left
                · simp only [Act.put, List.setIfInBounds_toArray, List.set_cons_zero, List.set_cons_succ, i64_w, i32_w]
                  rfl
                refine pure_ (i := 18) (N := some 74) (v := undef) (a' := ?_) #[true, true, true, true, true, true, true, true, true, true, true, true, true, true, true, true, true, true, true, false, false, false] rfl rfl (any_of HT_.out (by kernel_rfl)) (fun _ _ _ h => h) (Or.inr ⟨by rfl, rfl⟩) ?_ ?_
                rotate_left
                · simp only [Act.put, List.setIfInBounds_toArray, List.set_cons_zero, List.set_cons_succ, i64_w, i32_w]
                  rfl
                refine pure_ (i := 19) (N := some 75) (v := ?_) (a' := ?_) #[true, true, true, true, true, true, true, true, true, true, true, true, true, true, true, true, true, true, true, true, false, false] rfl rfl (any_of HT_.out (by kernel_rfl)) (fun _ _ _ h => h) (Or.inl ⟨by rfl, ?_⟩) ?_ ?_
                rotate_left
                · intro w'
                  go_simp
                  with_reducible rfl
                rotate_left
                · simp only [Act.put, List.setIfInBounds_toArray, List.set_cons_zero, List.set_cons_succ, i64_w, i32_w]
                  rfl
                refine pure_ (i := 20) (N := some 76) (v := ?_) (a' := ?_) #[true, true, true, true, true, true, true, true, true, true, true, true, true, true, true, true, true, true, true, true, true, false] rfl rfl (any_of HT_.out (by kernel_rfl)) (fun _ _ _ h => h) (Or.inl ⟨by rfl, ?_⟩) ?_ ?_
                rotate_left
                · intro w'
                  go_simp
                  with_reducible rfl
                rotate_left
                · simp only [Act.put, List.setIfInBounds_toArray, List.set_cons_zero, List.set_cons_succ, i64_w, i32_w]
                  rfl
                refine pure_ (i := 21) (N := some 14) (v := ?_) (a' := ?_) #[true, true, true, true, true, true, true, true, true, true, true, true, true, true, true, true, true, true, true, true, true, true] rfl rfl (any_of HT_.out (by kernel_rfl)) (fun _ _ _ h => h) (Or.inl ⟨by rfl, ?_⟩) ?_ ?_
                rotate_left
                · intro w'
                  go_simp
                  with_reducible rfl
                rotate_left
                · simp only [Act.put, List.setIfInBounds_toArray, List.set_cons_zero, List.set_cons_succ, i64_w, i32_w]
                  rfl
                refine done_ (done_of HT_.out (by kernel_rfl)) ?_
                try go_wp2
                go_meet
                case rel => exact ⟨_, (false), (by first | rfl | (simp; done) | (simp [*]; done)), H', ⟨by have := HJ6.out; first | omega | exact Nat.le_refl _⟩, ⟨by (with_reducible repeat (first | refine bN ?_ _ | refine bD ?_ | refine bA ?_ _)); exact BK237.out⟩, ⟨by (with_reducible repeat (first | refine bN ?_ _ | refine bD ?_ | refine bA ?_ _)); exact BK238.out⟩, ⟨by (with_reducible repeat (first | refine bN ?_ _ | refine bD ?_ | refine bA ?_ _)); exact BK252.out⟩, ⟨by (with_reducible repeat (first | refine bN ?_ _ | refine bD ?_ | refine bA ?_ _)); exact BK278.out⟩, ⟨by repeat (first | (with_reducible first | exact HB.out | apply pA | apply pN | apply pD | refine pS ?_ GE237.out | refine pS ?_ GE238.out | refine pS ?_ GE252.out | refine pS ?_ GE278.out) | exact HB.out)⟩⟩
          case rest =>
            clear HC31
            try clear c2
            try clear p2
            try clear c4
            try clear c5
            try clear c20
            try clear c42
            try clear c52
            try clear c52b0
            try clear c55
            try clear c55b0
            obtain ⟨kq, x14_30, rfl, HA, HJ30, BK237, BK238, BK252, BK278, HB⟩ := hcut
            cases kq with
            | zero => exact absurd HA.out (by simp [hourglasslaw21_CallWaits.j1])
            | succ kj30 =>
              have H := HA.out
              clear HA
              simp only [hourglasslaw21_CallWaits.j1] at H
              by_cases c62 : t270 = 2
              · rw [if_pos c62] at H
                have c62b0 : (t270 == 2) = true := beq_iff_eq.mpr c62
                have c62b1 : (t270 != 2) = false := bne_eq_false_iff_eq.mpr c62
                clear c62
                by_cases c63 : x14_30 = true
                · subst c63
                  have H1 : ((call_Rested.f t264 t265 t266 t267 t268 t269 t270 t271 t272 t273 t274 t275 t276 a2 a4).bind fun t285 => (if t285 = true then (some false) else ((call_Lost.f t264 t265 t266 t267 t268 t269 t270 t271 t272 t273 t274 t275 t276 a2 a3 a4).bind fun t286 => (if t286 = true then (some false) else ((hourglasslaw21_awake.f kj30).bind fun t287 => (some t287)))))) = some r := by rw [if_pos rfl] at H; exact H
                  clear H
                  have H := H1
                  clear H1
                  replace H := Option.bind_eq_some_iff.mp H
                  obtain ⟨t285, A640, H⟩ := H
                  replace H : (if t285 = true then (some false) else ((call_Lost.f t264 t265 t266 t267 t268 t269 t270 t271 t272 t273 t274 t275 t276 a2 a3 a4).bind fun t286 => (if t286 = true then (some false) else ((hourglasslaw21_awake.f kj30).bind fun t287 => (some t287))))) = some r := H
                  have A64 := Aside0.mk A640
                  clear A640
                  by_cases c65 : t285 = true
                  · subst c65
                    have H1 : (some false) = some r := by rw [if_pos rfl] at H; exact H
                    clear H
                    have H := H1
                    clear H1
                    exact absurd (Option.some.inj H) (by rw [HRT.out]; decide)
                  · replace c65 := Bool.eq_false_iff.mpr c65
                    subst c65
                    have H1 : ((call_Lost.f t264 t265 t266 t267 t268 t269 t270 t271 t272 t273 t274 t275 t276 a2 a3 a4).bind fun t286 => (if t286 = true then (some false) else ((hourglasslaw21_awake.f kj30).bind fun t287 => (some t287)))) = some r := by rw [if_neg (show ¬ (false = true) by decide)] at H; exact H
                    clear H
                    have H := H1
                    clear H1
                    replace H := Option.bind_eq_some_iff.mp H
                    obtain ⟨t286, A710, H⟩ := H
                    replace H : (if t286 = true then (some false) else ((hourglasslaw21_awake.f kj30).bind fun t287 => (some t287))) = some r := H
                    have A71 := Aside0.mk A710
                    clear A710
                    by_cases c72 : t286 = true
                    · subst c72
                      have H1 : (some false) = some r := by rw [if_pos rfl] at H; exact H
                      clear H
                      have H := H1
                      clear H1
                      exact absurd (Option.some.inj H) (by rw [HRT.out]; decide)
                    · replace c72 := Bool.eq_false_iff.mpr c72
                      subst c72
                      have H1 : ((hourglasslaw21_awake.f kj30).bind fun t287 => (some t287)) = some r := by rw [if_neg (show ¬ (false = true) by decide)] at H; exact H
                      clear H
                      have H := H1
                      clear H1
                      replace H := Option.bind_eq_some_iff.mp H
                      obtain ⟨t287, A800, H⟩ := H
                      replace H : (some t287) = some r := H
                      have A80 := Aside0.mk A800
                      clear A800
                      first
                        | exact absurd (Option.some.inj H) (by rw [HRT.out]; decide)
                        | (obtain rfl := Option.some.inj H
                           have hnb81 := NB278_237.out
                           have hnc81 := NB237_278.out
                           have hnb82 := NB278_238.out
                           have hnc82 := NB238_278.out
                           have hnb83 := NB278_252.out
                           have hnc83 := NB252_278.out
                           obtain ⟨hcz84_0, hcz84_1, hcz84_2, hcz84_3, hcz84_4, hcz84_5, hcz84_6, hcz84_7, hcz84_8, hcz84_9, hcz84_10, hcz84_11, hcz84_12⟩ := bc13 BK278.out; obtain ⟨hfz84_0, hfz84_1, hfz84_2, hfz84_3, hfz84_4, hfz84_5, hfz84_6, hfz84_7, hfz84_8, hfz84_9, hfz84_10, hfz84_11, hfz84_12⟩ := bf13 BK278.out
                           go_wp2_with (first | (go_at_call 45; (with_reducible refine (call_Rested.calls t264 t265 t266 t267 t268 t269 t270 t271 t272 t273 t274 t275 t276 a2 a4 false _ A64.out).mono ?_); rintro e w85 ⟨rfl, hb⟩; have n0_ := Aside0.mk (blk_below (g := gb237) (by (with_reducible repeat (first | refine bN ?_ _ | refine bD ?_ | refine bA ?_ _)); exact BK237.out) hb); have n1_ := Aside0.mk (blk_below (g := gb238) (by (with_reducible repeat (first | refine bN ?_ _ | refine bD ?_ | refine bA ?_ _)); exact BK238.out) hb); have n2_ := Aside0.mk (blk_below (g := gb252) (by (with_reducible repeat (first | refine bN ?_ _ | refine bD ?_ | refine bA ?_ _)); exact BK252.out) hb); have n3_ := Aside0.mk (blk_below (g := gb278) (by (with_reducible repeat (first | refine bN ?_ _ | refine bD ?_ | refine bA ?_ _)); exact BK278.out) hb); have n4_ := Aside0.mk (below_step (by repeat (first | (with_reducible first | exact HB.out | apply pA | apply pN | apply pD | refine pS ?_ GE237.out | refine pS ?_ GE238.out | refine pS ?_ GE252.out | refine pS ?_ GE278.out) | exact HB.out)) hb); clear BK237; clear BK238; clear BK252; clear BK278; clear HB; have BK237 := n0_; have BK238 := n1_; have BK252 := n2_; have BK278 := n3_; have HB := n4_; clear n0_ n1_ n2_ n3_ n4_; (try clear hb); (try clear hb2); (try clear hk); (try clear hi); obtain ⟨hcz86_0, hcz86_1, hcz86_2, hcz86_3, hcz86_4, hcz86_5, hcz86_6, hcz86_7, hcz86_8, hcz86_9, hcz86_10, hcz86_11, hcz86_12⟩ := bc13 BK278.out; obtain ⟨hfz86_0, hfz86_1, hfz86_2, hfz86_3, hfz86_4, hfz86_5, hfz86_6, hfz86_7, hfz86_8, hfz86_9, hfz86_10, hfz86_11, hfz86_12⟩ := bf13 BK278.out) | (go_at_call 41; (with_reducible refine (call_Lost.calls t264 t265 t266 t267 t268 t269 t270 t271 t272 t273 t274 t275 t276 a2 a3 a4 false _ A71.out).mono ?_); rintro e w87 ⟨rfl, hb⟩; have n0_ := Aside0.mk (blk_below (g := gb237) (by (with_reducible repeat (first | refine bN ?_ _ | refine bD ?_ | refine bA ?_ _)); exact BK237.out) hb); have n1_ := Aside0.mk (blk_below (g := gb238) (by (with_reducible repeat (first | refine bN ?_ _ | refine bD ?_ | refine bA ?_ _)); exact BK238.out) hb); have n2_ := Aside0.mk (blk_below (g := gb252) (by (with_reducible repeat (first | refine bN ?_ _ | refine bD ?_ | refine bA ?_ _)); exact BK252.out) hb); have n3_ := Aside0.mk (blk_below (g := gb278) (by (with_reducible repeat (first | refine bN ?_ _ | refine bD ?_ | refine bA ?_ _)); exact BK278.out) hb); have n4_ := Aside0.mk (below_step (by repeat (first | (with_reducible first | exact HB.out | apply pA | apply pN | apply pD | refine pS ?_ GE237.out | refine pS ?_ GE238.out | refine pS ?_ GE252.out | refine pS ?_ GE278.out) | exact HB.out)) hb); clear BK237; clear BK238; clear BK252; clear BK278; clear HB; have BK237 := n0_; have BK238 := n1_; have BK252 := n2_; have BK278 := n3_; have HB := n4_; clear n0_ n1_ n2_ n3_ n4_; (try clear hb); (try clear hb2); (try clear hk); (try clear hi)) | (go_at_call 39; (with_reducible refine (hourglasslaw21_awake.calls kj30  t287 _ A80.out HRT.out).mono ?_); rintro e w88 ⟨rfl, hb⟩; have n0_ := Aside0.mk (blk_below (g := gb237) (by (with_reducible repeat (first | refine bN ?_ _ | refine bD ?_ | refine bA ?_ _)); exact BK237.out) hb); have n1_ := Aside0.mk (blk_below (g := gb238) (by (with_reducible repeat (first | refine bN ?_ _ | refine bD ?_ | refine bA ?_ _)); exact BK238.out) hb); have n2_ := Aside0.mk (blk_below (g := gb252) (by (with_reducible repeat (first | refine bN ?_ _ | refine bD ?_ | refine bA ?_ _)); exact BK252.out) hb); have n3_ := Aside0.mk (blk_below (g := gb278) (by (with_reducible repeat (first | refine bN ?_ _ | refine bD ?_ | refine bA ?_ _)); exact BK278.out) hb); have n4_ := Aside0.mk (below_step (by repeat (first | (with_reducible first | exact HB.out | apply pA | apply pN | apply pD | refine pS ?_ GE237.out | refine pS ?_ GE238.out | refine pS ?_ GE252.out | refine pS ?_ GE278.out) | exact HB.out)) hb); clear BK237; clear BK238; clear BK252; clear BK278; clear HB; have BK237 := n0_; have BK238 := n1_; have BK252 := n2_; have BK278 := n3_; have HB := n4_; clear n0_ n1_ n2_ n3_ n4_; (try clear hb); (try clear hb2); (try clear hk); (try clear hi)))
                           go_ret
                           exact ⟨by first | rfl | (simp [errW_none, errW_some] <;> rfl) | (simp [*, errW_none, errW_some] <;> rfl), by repeat (first | (with_reducible first | exact HB.out | apply pA | apply pN | apply pD | refine pS ?_ GE237.out | refine pS ?_ GE238.out | refine pS ?_ GE252.out | refine pS ?_ GE278.out) | exact HB.out)⟩)
                · replace c63 := Bool.eq_false_iff.mpr c63
                  subst c63
                  have H1 : ((call_Lost.f t264 t265 t266 t267 t268 t269 t270 t271 t272 t273 t274 t275 t276 a2 a3 a4).bind fun t288 => (if t288 = true then (some false) else ((hourglasslaw21_awake.f kj30).bind fun t289 => (some t289)))) = some r := by rw [if_neg (show ¬ (false = true) by decide)] at H; exact H
                  clear H
                  have H := H1
                  clear H1
                  replace H := Option.bind_eq_some_iff.mp H
                  obtain ⟨t288, A890, H⟩ := H
                  replace H : (if t288 = true then (some false) else ((hourglasslaw21_awake.f kj30).bind fun t289 => (some t289))) = some r := H
                  have A89 := Aside0.mk A890
                  clear A890
                  by_cases c90 : t288 = true
                  · subst c90
                    have H1 : (some false) = some r := by rw [if_pos rfl] at H; exact H
                    clear H
                    have H := H1
                    clear H1
                    exact absurd (Option.some.inj H) (by rw [HRT.out]; decide)
                  · replace c90 := Bool.eq_false_iff.mpr c90
                    subst c90
                    have H1 : ((hourglasslaw21_awake.f kj30).bind fun t289 => (some t289)) = some r := by rw [if_neg (show ¬ (false = true) by decide)] at H; exact H
                    clear H
                    have H := H1
                    clear H1
                    replace H := Option.bind_eq_some_iff.mp H
                    obtain ⟨t289, A960, H⟩ := H
                    replace H : (some t289) = some r := H
                    have A96 := Aside0.mk A960
                    clear A960
                    first
                      | exact absurd (Option.some.inj H) (by rw [HRT.out]; decide)
                      | (obtain rfl := Option.some.inj H
                         have hnb97 := NB278_237.out
                         have hnc97 := NB237_278.out
                         have hnb98 := NB278_238.out
                         have hnc98 := NB238_278.out
                         have hnb99 := NB278_252.out
                         have hnc99 := NB252_278.out
                         obtain ⟨hcz100_0, hcz100_1, hcz100_2, hcz100_3, hcz100_4, hcz100_5, hcz100_6, hcz100_7, hcz100_8, hcz100_9, hcz100_10, hcz100_11, hcz100_12⟩ := bc13 BK278.out; obtain ⟨hfz100_0, hfz100_1, hfz100_2, hfz100_3, hfz100_4, hfz100_5, hfz100_6, hfz100_7, hfz100_8, hfz100_9, hfz100_10, hfz100_11, hfz100_12⟩ := bf13 BK278.out
                         go_wp2_with (first | (go_at_call 41; (with_reducible refine (call_Lost.calls t264 t265 t266 t267 t268 t269 t270 t271 t272 t273 t274 t275 t276 a2 a3 a4 false _ A89.out).mono ?_); rintro e w101 ⟨rfl, hb⟩; have n0_ := Aside0.mk (blk_below (g := gb237) (by (with_reducible repeat (first | refine bN ?_ _ | refine bD ?_ | refine bA ?_ _)); exact BK237.out) hb); have n1_ := Aside0.mk (blk_below (g := gb238) (by (with_reducible repeat (first | refine bN ?_ _ | refine bD ?_ | refine bA ?_ _)); exact BK238.out) hb); have n2_ := Aside0.mk (blk_below (g := gb252) (by (with_reducible repeat (first | refine bN ?_ _ | refine bD ?_ | refine bA ?_ _)); exact BK252.out) hb); have n3_ := Aside0.mk (blk_below (g := gb278) (by (with_reducible repeat (first | refine bN ?_ _ | refine bD ?_ | refine bA ?_ _)); exact BK278.out) hb); have n4_ := Aside0.mk (below_step (by repeat (first | (with_reducible first | exact HB.out | apply pA | apply pN | apply pD | refine pS ?_ GE237.out | refine pS ?_ GE238.out | refine pS ?_ GE252.out | refine pS ?_ GE278.out) | exact HB.out)) hb); clear BK237; clear BK238; clear BK252; clear BK278; clear HB; have BK237 := n0_; have BK238 := n1_; have BK252 := n2_; have BK278 := n3_; have HB := n4_; clear n0_ n1_ n2_ n3_ n4_; (try clear hb); (try clear hb2); (try clear hk); (try clear hi)) | (go_at_call 39; (with_reducible refine (hourglasslaw21_awake.calls kj30  t289 _ A96.out HRT.out).mono ?_); rintro e w102 ⟨rfl, hb⟩; have n0_ := Aside0.mk (blk_below (g := gb237) (by (with_reducible repeat (first | refine bN ?_ _ | refine bD ?_ | refine bA ?_ _)); exact BK237.out) hb); have n1_ := Aside0.mk (blk_below (g := gb238) (by (with_reducible repeat (first | refine bN ?_ _ | refine bD ?_ | refine bA ?_ _)); exact BK238.out) hb); have n2_ := Aside0.mk (blk_below (g := gb252) (by (with_reducible repeat (first | refine bN ?_ _ | refine bD ?_ | refine bA ?_ _)); exact BK252.out) hb); have n3_ := Aside0.mk (blk_below (g := gb278) (by (with_reducible repeat (first | refine bN ?_ _ | refine bD ?_ | refine bA ?_ _)); exact BK278.out) hb); have n4_ := Aside0.mk (below_step (by repeat (first | (with_reducible first | exact HB.out | apply pA | apply pN | apply pD | refine pS ?_ GE237.out | refine pS ?_ GE238.out | refine pS ?_ GE252.out | refine pS ?_ GE278.out) | exact HB.out)) hb); clear BK237; clear BK238; clear BK252; clear BK278; clear HB; have BK237 := n0_; have BK238 := n1_; have BK252 := n2_; have BK278 := n3_; have HB := n4_; clear n0_ n1_ n2_ n3_ n4_; (try clear hb); (try clear hb2); (try clear hk); (try clear hi)))
                         go_ret
                         exact ⟨by first | rfl | (simp [errW_none, errW_some] <;> rfl) | (simp [*, errW_none, errW_some] <;> rfl), by repeat (first | (with_reducible first | exact HB.out | apply pA | apply pN | apply pD | refine pS ?_ GE237.out | refine pS ?_ GE238.out | refine pS ?_ GE252.out | refine pS ?_ GE278.out) | exact HB.out)⟩)
              · rw [if_neg c62] at H
                have c62b0 : (t270 == 2) = false := beq_eq_false_iff_ne.mpr c62
                have c62b1 : (t270 != 2) = true := bne_iff_ne.mpr c62
                first
                  | exact absurd (Option.some.inj H) (by rw [HRT.out]; decide)
                  | (obtain rfl := Option.some.inj H
                     have hnb103 := NB278_237.out
                     have hnc103 := NB237_278.out
                     have hnb104 := NB278_238.out
                     have hnc104 := NB238_278.out
                     have hnb105 := NB278_252.out
                     have hnc105 := NB252_278.out
                     obtain ⟨hcz106_0, hcz106_1, hcz106_2, hcz106_3, hcz106_4, hcz106_5, hcz106_6, hcz106_7, hcz106_8, hcz106_9, hcz106_10, hcz106_11, hcz106_12⟩ := bc13 BK278.out; obtain ⟨hfz106_0, hfz106_1, hfz106_2, hfz106_3, hfz106_4, hfz106_5, hfz106_6, hfz106_7, hfz106_8, hfz106_9, hfz106_10, hfz106_11, hfz106_12⟩ := bf13 BK278.out
                     go_wp2
                     go_ret
                     exact ⟨by first | rfl | (simp [errW_none, errW_some] <;> rfl) | (simp [*, errW_none, errW_some] <;> rfl), by repeat (first | (with_reducible first | exact HB.out | apply pA | apply pN | apply pD | refine pS ?_ GE237.out | refine pS ?_ GE238.out | refine pS ?_ GE252.out | refine pS ?_ GE278.out) | exact HB.out)⟩)
        · rw [if_neg c30] at H
          have c30b0 : (t277 == 0) = false := beq_eq_false_iff_ne.mpr c30
          have c30b1 : (t277 != 0) = true := bne_iff_ne.mpr c30
          by_cases c107 : t270 = 3
          · rw [if_pos c107] at H
            have c107b0 : (t270 == 3) = true := beq_iff_eq.mpr c107
            have c107b1 : (t270 != 3) = false := bne_eq_false_iff_eq.mpr c107
            clear c107
            replace H := Option.bind_eq_some_iff.mp H
            obtain ⟨t279, A1080, H⟩ := H
            replace H : (if t279 = true then (some false) else ((hourglasslaw21_awake.f kj6).bind fun t280 => (some t280))) = some r := H
            have A108 := Aside0.mk A1080
            clear A1080
            by_cases c109 : t279 = true
            · subst c109
              have H1 : (some false) = some r := by rw [if_pos rfl] at H; exact H
              clear H
              have H := H1
              clear H1
              exact absurd (Option.some.inj H) (by rw [HRT.out]; decide)
            · replace c109 := Bool.eq_false_iff.mpr c109
              subst c109
              have H1 : ((hourglasslaw21_awake.f kj6).bind fun t280 => (some t280)) = some r := by rw [if_neg (show ¬ (false = true) by decide)] at H; exact H
              clear H
              have H := H1
              clear H1
              replace H := Option.bind_eq_some_iff.mp H
              obtain ⟨t280, A1330, H⟩ := H
              replace H : (some t280) = some r := H
              have A133 := Aside0.mk A1330
              clear A1330
              first
                | exact absurd (Option.some.inj H) (by rw [HRT.out]; decide)
                | (obtain rfl := Option.some.inj H
                   try go_wp2
                   have n0_ := Aside0.mk (blk_drew BK237.out)
                   have n1_ := Aside0.mk (blk_drew BK238.out)
                   have n2_ := Aside0.mk (blk_drew BK252.out)
                   have n3_ := Aside0.mk (below_drew1 HB.out)
                   clear BK237
                   clear BK238
                   clear BK252
                   clear HB
                   have BK237 := n0_
                   have BK238 := n1_
                   have BK252 := n2_
                   have HB := n3_
                   clear n0_ n1_ n2_ n3_
                   refine start_ (n := 11) (S := fun w' => w'.cell? ⟨gb252, 0, none⟩ = some (.int .i64 t239) ∧ w'.cell? ⟨gb252, 1, none⟩ = some (.int .i64 t240) ∧ w'.cell? ⟨gb252, 2, none⟩ = some (.int .i64 t241) ∧ w'.cell? ⟨gb252, 3, none⟩ = some (.int .i64 t242) ∧ w'.cell? ⟨gb252, 4, none⟩ = some (.int .i64 t243) ∧ w'.cell? ⟨gb252, 5, none⟩ = some (.int .i64 t244) ∧ w'.cell? ⟨gb252, 6, none⟩ = some (.int .i64 t245) ∧ w'.cell? ⟨gb252, 7, none⟩ = some (.int .i64 t246) ∧ w'.cell? ⟨gb252, 8, none⟩ = some (.int .i64 t247) ∧ w'.cell? ⟨gb252, 9, none⟩ = some (.bool t248) ∧ w'.cell? ⟨gb252, 10, none⟩ = some (.int .i64 t249) ∧ w'.cell? ⟨gb252, 11, none⟩ = some (.int .i64 t250) ∧ w'.cell? ⟨gb252, 12, none⟩ = some (.int .i64 t251) ∧ w'.cell? ⟨gb237, 0, none⟩ = some (.int .i64 a0_0) ∧ w'.cell? ⟨gb237, 1, none⟩ = some (.int .i64 a0_1) ∧ w'.cell? ⟨gb237, 2, none⟩ = some (.int .i64 a0_2) ∧ w'.cell? ⟨gb237, 3, none⟩ = some (.int .i64 a0_3) ∧ w'.cell? ⟨gb237, 4, none⟩ = some (.int .i64 a0_4) ∧ w'.cell? ⟨gb237, 5, none⟩ = some (.int .i64 a0_5) ∧ w'.cell? ⟨gb237, 6, none⟩ = some (.int .i64 a0_6) ∧ w'.cell? ⟨gb237, 7, none⟩ = some (.int .i64 a0_7) ∧ w'.cell? ⟨gb237, 8, none⟩ = some (.int .i64 a0_8) ∧ w'.cell? ⟨gb237, 9, none⟩ = some (.int .i64 a0_9) ∧ w'.cell? ⟨gb237, 10, none⟩ = some (.int .i64 a0_10) ∧ w'.cell? ⟨gb237, 11, none⟩ = some (.int .i64 a0_11) ∧ w'.cell? ⟨gb237, 12, none⟩ = some (.int .i64 a0_12) ∧ w'.cell? ⟨gb237, 13, none⟩ = some (.slice A0_13 l0_13.length c0_13) ∧ w'.cell? ⟨gb238, 0, none⟩ = some (.int .i64 a1_0) ∧ w'.cell? ⟨gb238, 1, none⟩ = some (.int .i64 a1_1) ∧ w'.cell? ⟨gb238, 2, none⟩ = some (.bool a1_2) ∧ w'.cell? ⟨gb238, 3, none⟩ = some (.int .i64 a1_3) ∧ w'.cell? ⟨gb238, 4, none⟩ = some (.int .i64 a1_4) ∧ w'.cell? ⟨gb238, 5, none⟩ = some (.int .i64 a1_5) ∧ w'.cell? ⟨gb238, 6, none⟩ = some (.int .i64 a1_6) ∧ w'.cell? ⟨gb238, 7, none⟩ = some (.int .i64 a1_7)) (ds := []) #[false, false, false, false, false, false, false, false, false, false, false] (by kernel_rfl) rfl rfl (br13 BK252.out (br14 BK237.out (bc8 BK238.out))) (fun hHeld => ?_); refine with_tabW hourglasslaw21_CallWaits.tab4 hourglasslaw21_CallWaits.bits4 (fun HT_ HW_ => ?_)
                   generalize wc.drew = w134 at BK237 BK238 BK252 HB hHeld ⊢
                   refine take_ (i := 0) (N := some 34) (v := ?_) (a' := ?_) #[true, false, false, false, false, false, false, false, false, false, false] rfl rfl (take_ofW HT_.out HW_.out (by kernel_rfl)) (fun _ _ _ h => h) (Or.inl ⟨by rfl, ?_⟩) hHeld ?_ ?_
                   rotate_left
                   · rintro w' ⟨s0, s1, s2, s3, s4, s5, s6, s7, s8, s9, s10, s11, s12, s13, s14, s15, s16, s17, s18, s19, s20, s21, s22, s23, s24, s25, s26, s27, s28, s29, s30, s31, s32, s33, s34⟩
                     go_simp
                     with_reducible rfl
                   rotate_left
                   · simp only [Act.put, List.setIfInBounds_toArray, List.set_cons_zero, List.set_cons_succ, i64_w, i32_w]
                     rfl
                   refine take_ (i := 1) (N := some 35) (v := ?_) (a' := ?_) #[true, true, false, false, false, false, false, false, false, false, false] rfl rfl (take_ofW HT_.out HW_.out (by kernel_rfl)) (fun _ _ _ h => h) (Or.inl ⟨by rfl, ?_⟩) hHeld ?_ ?_
                   rotate_left
                   · rintro w' ⟨s0, s1, s2, s3, s4, s5, s6, s7, s8, s9, s10, s11, s12, s13, s14, s15, s16, s17, s18, s19, s20, s21, s22, s23, s24, s25, s26, s27, s28, s29, s30, s31, s32, s33, s34⟩
                     go_simp
                     with_reducible rfl
                   rotate_left
                   · simp only [Act.put, List.setIfInBounds_toArray, List.set_cons_zero, List.set_cons_succ, i64_w, i32_w]
                     rfl
                   refine take_ (i := 2) (N := some 36) (v := ?_) (a' := ?_) #[true, true, true, false, false, false, false, false, false, false, false] rfl rfl (take_ofW HT_.out HW_.out (by kernel_rfl)) (fun _ _ _ h => h) (Or.inl ⟨by rfl, ?_⟩) hHeld ?_ ?_
                   rotate_left
                   · rintro w' ⟨s0, s1, s2, s3, s4, s5, s6, s7, s8, s9, s10, s11, s12, s13, s14, s15, s16, s17, s18, s19, s20, s21, s22, s23, s24, s25, s26, s27, s28, s29, s30, s31, s32, s33, s34⟩
                     go_simp
                     with_reducible rfl
                   rotate_left
                   · simp only [Act.put, List.setIfInBounds_toArray, List.set_cons_zero, List.set_cons_succ, i64_w, i32_w]
                     rfl
                   refine join_ (σ := Nat) 2 #[true, true, true, true, true, true, true, true, true, false, false] (fun s_ => [(37, .agg #[.int .i64 t256, .int .i64 t257, .bool t258, .int .i64 t259, .int .i64 t260, .int .i64 t261, .int .i64 t262, .int .i64 t263]), (38, .tuple #[.agg #[.int .i64 t264, .int .i64 t265, .int .i64 t266, .int .i64 t267, .int .i64 t268, .int .i64 t269, .int .i64 t270, .int .i64 t271, .int .i64 t272, .bool t273, .int .i64 t274, .int .i64 t275, .int .i64 t276], .int .i64 t277]), (12, .pointer (some ⟨s_, 0, none⟩)), (33, .tuple #[.agg #[.int .i64 t264, .int .i64 t265, .int .i64 t266, .int .i64 t267, .int .i64 t268, .int .i64 t269, .int .i64 t270, .int .i64 t271, .int .i64 t272, .bool t273, .int .i64 t274, .int .i64 t275, .int .i64 t276], .int .i64 t277]), (39, .agg #[.int .i64 t264, .int .i64 t265, .int .i64 t266, .int .i64 t267, .int .i64 t268, .int .i64 t269, .int .i64 t270, .int .i64 t271, .int .i64 t272, .bool t273, .int .i64 t274, .int .i64 t275, .int .i64 t276]), (40, .int .i64 t277)]) (fun s_ w' => (w'.cell? ⟨gb252, 0, none⟩ = some (.int .i64 t239) ∧ w'.cell? ⟨gb252, 1, none⟩ = some (.int .i64 t240) ∧ w'.cell? ⟨gb252, 2, none⟩ = some (.int .i64 t241) ∧ w'.cell? ⟨gb252, 3, none⟩ = some (.int .i64 t242) ∧ w'.cell? ⟨gb252, 4, none⟩ = some (.int .i64 t243) ∧ w'.cell? ⟨gb252, 5, none⟩ = some (.int .i64 t244) ∧ w'.cell? ⟨gb252, 6, none⟩ = some (.int .i64 t245) ∧ w'.cell? ⟨gb252, 7, none⟩ = some (.int .i64 t246) ∧ w'.cell? ⟨gb252, 8, none⟩ = some (.int .i64 t247) ∧ w'.cell? ⟨gb252, 9, none⟩ = some (.bool t248) ∧ w'.cell? ⟨gb252, 10, none⟩ = some (.int .i64 t249) ∧ w'.cell? ⟨gb252, 11, none⟩ = some (.int .i64 t250) ∧ w'.cell? ⟨gb252, 12, none⟩ = some (.int .i64 t251) ∧ w'.cell? ⟨gb237, 0, none⟩ = some (.int .i64 a0_0) ∧ w'.cell? ⟨gb237, 1, none⟩ = some (.int .i64 a0_1) ∧ w'.cell? ⟨gb237, 2, none⟩ = some (.int .i64 a0_2) ∧ w'.cell? ⟨gb237, 3, none⟩ = some (.int .i64 a0_3) ∧ w'.cell? ⟨gb237, 4, none⟩ = some (.int .i64 a0_4) ∧ w'.cell? ⟨gb237, 5, none⟩ = some (.int .i64 a0_5) ∧ w'.cell? ⟨gb237, 6, none⟩ = some (.int .i64 a0_6) ∧ w'.cell? ⟨gb237, 7, none⟩ = some (.int .i64 a0_7) ∧ w'.cell? ⟨gb237, 8, none⟩ = some (.int .i64 a0_8) ∧ w'.cell? ⟨gb237, 9, none⟩ = some (.int .i64 a0_9) ∧ w'.cell? ⟨gb237, 10, none⟩ = some (.int .i64 a0_10) ∧ w'.cell? ⟨gb237, 11, none⟩ = some (.int .i64 a0_11) ∧ w'.cell? ⟨gb237, 12, none⟩ = some (.int .i64 a0_12) ∧ w'.cell? ⟨gb237, 13, none⟩ = some (.slice A0_13 l0_13.length c0_13) ∧ w'.cell? ⟨gb238, 0, none⟩ = some (.int .i64 a1_0) ∧ w'.cell? ⟨gb238, 1, none⟩ = some (.int .i64 a1_1) ∧ w'.cell? ⟨gb238, 2, none⟩ = some (.bool a1_2) ∧ w'.cell? ⟨gb238, 3, none⟩ = some (.int .i64 a1_3) ∧ w'.cell? ⟨gb238, 4, none⟩ = some (.int .i64 a1_4) ∧ w'.cell? ⟨gb238, 5, none⟩ = some (.int .i64 a1_5) ∧ w'.cell? ⟨gb238, 6, none⟩ = some (.int .i64 a1_6) ∧ w'.cell? ⟨gb238, 7, none⟩ = some (.int .i64 a1_7)) ∧ (w'.heap[gb237]? = some (.cells #[.int .i64 a0_0, .int .i64 a0_1, .int .i64 a0_2, .int .i64 a0_3, .int .i64 a0_4, .int .i64 a0_5, .int .i64 a0_6, .int .i64 a0_7, .int .i64 a0_8, .int .i64 a0_9, .int .i64 a0_10, .int .i64 a0_11, .int .i64 a0_12, .slice A0_13 l0_13.length c0_13] 72 (0, 0))) ∧ (w'.heap[gb238]? = some (.cells #[.int .i64 a1_0, .int .i64 a1_1, .bool a1_2, .int .i64 a1_3, .int .i64 a1_4, .int .i64 a1_5, .int .i64 a1_6, .int .i64 a1_7] 77 (0, 0))) ∧ (w'.heap[gb252]? = some (.cells #[.int .i64 t239, .int .i64 t240, .int .i64 t241, .int .i64 t242, .int .i64 t243, .int .i64 t244, .int .i64 t245, .int .i64 t246, .int .i64 t247, .bool t248, .int .i64 t249, .int .i64 t250, .int .i64 t251] 58 (0, 0))) ∧ (w'.heap[s_]? = some (.cells #[.int .i64 0, .int .i64 0, .int .i64 0, .int .i64 0, .int .i64 0, .int .i64 0, .int .i64 0, .int .i64 0, .int .i64 0, .bool false, .int .i64 0, .int .i64 0, .int .i64 0] 58 (0, 0))) ∧ (w.heap.size ≤ s_) ∧ (w.heap.size ≤ s_) ∧ (gb237 ≠ s_) ∧ (s_ ≠ gb237) ∧ (gb238 ≠ s_) ∧ (s_ ≠ gb238) ∧ (gb252 ≠ s_) ∧ (s_ ≠ gb252) ∧ (Below w.heap.size w w')) ?_ ?_
                   rotate_left
                   · intro hCont
                     refine two_ (i := 3) (j := 8) (Ni := some 37) (Nj := some 12) #[true, true, true, true, false, false, false, false, false, false, false] #[true, true, true, false, false, false, false, false, true, false, false] rfl rfl rfl rfl (two_of HT_.out (by kernel_rfl)) (by decide) (by decide) (fun K hK => ?_) (fun K hK => ?_)
                     · skip
                       refine goes_ Try.func44 (by kernel_rfl) rfl #[.agg #[.int .i64 a1_0, .int .i64 a1_1, .bool a1_2, .int .i64 a1_3, .int .i64 a1_4, .int .i64 a1_5, .int .i64 a1_6, .int .i64 a1_7]] (by rfl) rfl rfl (by (try simp only [List.map_toArray, List.map_cons, List.map_nil]); first | done | rfl | (simp only [List.length_drop, List.length_take]; rfl)) ?_
                       with_reducible refine (hourglasslaw21_mine.calls a1_0 a1_1 a1_2 a1_3 a1_4 a1_5 a1_6 a1_7 t256 t257 t258 t259 t260 t261 t262 t263 _ A28.out).mono ?_
                       rintro e w135 ⟨rfl, hb⟩
                       refine ⟨_, rfl, ?_⟩
                       have n0_ := Aside0.mk (blk_below (g := gb237) (by (with_reducible repeat (first | refine bN ?_ _ | refine bD ?_ | refine bA ?_ _)); exact BK237.out) hb)
                       have n1_ := Aside0.mk (blk_below (g := gb238) (by (with_reducible repeat (first | refine bN ?_ _ | refine bD ?_ | refine bA ?_ _)); exact BK238.out) hb)
                       have n2_ := Aside0.mk (blk_below (g := gb252) (by (with_reducible repeat (first | refine bN ?_ _ | refine bD ?_ | refine bA ?_ _)); exact BK252.out) hb)
                       have n3_ := Aside0.mk (below_step (by repeat (first | (with_reducible first | exact HB.out | apply pA | apply pN | apply pD | refine pS ?_ GE237.out | refine pS ?_ GE238.out | refine pS ?_ GE252.out) | exact HB.out)) hb)
                       clear BK237
                       clear BK238
                       clear BK252
                       clear HB
                       have BK237 := n0_
                       have BK238 := n1_
                       have BK252 := n2_
                       have HB := n3_
                       clear n0_ n1_ n2_ n3_
                       (try clear hb)
                       (try clear hb2)
                       (try clear hk)
                       (try clear hi)
                       refine hK.out _ _ (br13 BK252.out (br14 BK237.out (bc8 BK238.out))) (fun hHeld => ?_)
                       clear hK K
                       refine norm_ (a' := ?_) ?_ ?_
                       rotate_left
                       · show Act.put _ (some 37) _ = _
                         simp only [Act.put, List.setIfInBounds_toArray, List.set_cons_zero, List.set_cons_succ, i64_w, i32_w]
                         rfl
                       refine two_ (i := 4) (j := 8) (Ni := some 38) (Nj := some 12) #[true, true, true, true, true, false, false, false, false, false, false] #[true, true, true, true, false, false, false, false, true, false, false] rfl rfl rfl rfl (two_of HT_.out (by kernel_rfl)) (by decide) (by decide) (fun K hK => ?_) (fun K hK => ?_)
                       · skip
                         refine goes_ Try.func43 (by kernel_rfl) rfl #[.agg #[.int .i64 t239, .int .i64 t240, .int .i64 t241, .int .i64 t242, .int .i64 t243, .int .i64 t244, .int .i64 t245, .int .i64 t246, .int .i64 t247, .bool t248, .int .i64 t249, .int .i64 t250, .int .i64 t251], .agg #[.int .i64 a0_0, .int .i64 a0_1, .int .i64 a0_2, .int .i64 a0_3, .int .i64 a0_4, .int .i64 a0_5, .int .i64 a0_6, .int .i64 a0_7, .int .i64 a0_8, .int .i64 a0_9, .int .i64 a0_10, .int .i64 a0_11, .int .i64 a0_12, .slice A0_13 l0_13.length c0_13], .agg #[.int .i64 t256, .int .i64 t257, .bool t258, .int .i64 t259, .int .i64 t260, .int .i64 t261, .int .i64 t262, .int .i64 t263]] (by rfl) rfl rfl (by (try simp only [List.map_toArray, List.map_cons, List.map_nil]); first | done | rfl | (simp only [List.length_drop, List.length_take]; rfl)) ?_
                         with_reducible refine (call_Bad.calls kj6 t239 t240 t241 t242 t243 t244 t245 t246 t247 t248 t249 t250 t251 a0_0 a0_1 a0_2 a0_3 a0_4 a0_5 a0_6 a0_7 a0_8 a0_9 a0_10 a0_11 a0_12 _ _ l0_13 t256 t257 t258 t259 t260 t261 t262 t263 t264 t265 t266 t267 t268 t269 t270 t271 t272 t273 t274 t275 t276 t277 _ ?side1 ?side2 A29.out).mono ?_
                         (case side1 => repeat (first | exact (Kd.C_below HR0_13.out HB.out) | (with_reducible refine Kd.C_alloc ?_ _) | (with_reducible refine Kd.C_drewN ?_ _) | (with_reducible refine Kd.C_drew ?_)))
                         (case side2 => exact HC0_13.out)
                         rintro e w136 ⟨rfl, hb⟩
                         refine ⟨_, rfl, ?_⟩
                         have n0_ := Aside0.mk (blk_below (g := gb237) (by (with_reducible repeat (first | refine bN ?_ _ | refine bD ?_ | refine bA ?_ _)); exact BK237.out) hb)
                         have n1_ := Aside0.mk (blk_below (g := gb238) (by (with_reducible repeat (first | refine bN ?_ _ | refine bD ?_ | refine bA ?_ _)); exact BK238.out) hb)
                         have n2_ := Aside0.mk (blk_below (g := gb252) (by (with_reducible repeat (first | refine bN ?_ _ | refine bD ?_ | refine bA ?_ _)); exact BK252.out) hb)
                         have n3_ := Aside0.mk (below_step (by repeat (first | (with_reducible first | exact HB.out | apply pA | apply pN | apply pD | refine pS ?_ GE237.out | refine pS ?_ GE238.out | refine pS ?_ GE252.out) | exact HB.out)) hb)
                         clear BK237
                         clear BK238
                         clear BK252
                         clear HB
                         have BK237 := n0_
                         have BK238 := n1_
                         have BK252 := n2_
                         have HB := n3_
                         clear n0_ n1_ n2_ n3_
                         (try clear hb)
                         (try clear hb2)
                         (try clear hk)
                         (try clear hi)
                         refine hK.out _ _ (br13 BK252.out (br14 BK237.out (bc8 BK238.out))) (fun hHeld => ?_)
                         clear hK K
                         refine norm_ (a' := ?_) ?_ ?_
                         rotate_left
                         · show Act.put _ (some 38) _ = _
                           simp only [Act.put, List.setIfInBounds_toArray, List.set_cons_zero, List.set_cons_succ, i64_w, i32_w]
                           rfl
                         refine pure_ (i := 5) (N := some 33) (v := ?_) (a' := ?_) #[true, true, true, true, true, true, false, false, false, false, false] rfl rfl (any_of HT_.out (by kernel_rfl)) (fun _ _ _ h => h) (Or.inl ⟨by rfl, ?_⟩) ?_ ?_
                         rotate_left
                         · intro w'
                           go_simp
                           with_reducible rfl
                         rotate_left
                         · simp only [Act.put, List.setIfInBounds_toArray, List.set_cons_zero, List.set_cons_succ, i64_w, i32_w]
                           rfl
                         refine pure_ (i := 6) (N := some 39) (v := ?_) (a' := ?_) #[true, true, true, true, true, true, true, false, false, false, false] rfl rfl (any_of HT_.out (by kernel_rfl)) (fun _ _ _ h => h) (Or.inl ⟨by rfl, ?_⟩) ?_ ?_
                         rotate_left
                         · intro w'
                           go_simp
                           with_reducible rfl
                         rotate_left
                         · simp only [Act.put, List.setIfInBounds_toArray, List.set_cons_zero, List.set_cons_succ, i64_w, i32_w]
                           rfl
                         refine pure_ (i := 7) (N := some 40) (v := ?_) (a' := ?_) #[true, true, true, true, true, true, true, true, false, false, false] rfl rfl (any_of HT_.out (by kernel_rfl)) (fun _ _ _ h => h) (Or.inl ⟨by rfl, ?_⟩) ?_ ?_
                         rotate_left
                         · intro w'
                           go_simp
                           with_reducible rfl
                         rotate_left
                         · simp only [Act.put, List.setIfInBounds_toArray, List.set_cons_zero, List.set_cons_succ, i64_w, i32_w]
                           rfl
                         refine one_ (i := 8) (N := some 12) #[true, true, true, true, true, true, true, true, true, false, false] rfl rfl (one_of HT_.out (by kernel_rfl)) (by decide) (fun K hK => ?_)
                         refine box_step ?hg (N := 12) ?hd (cs := #[.int .i64 0, .int .i64 0, .int .i64 0, .int .i64 0, .int .i64 0, .int .i64 0, .int .i64 0, .int .i64 0, .int .i64 0, .bool false, .int .i64 0, .int .i64 0, .int .i64 0]) (t := 58) ?hr ?_; (case hd => rfl); (case hg => rfl); (case hr => first | (go_simp; done) | (go_simp; rfl))
                         intro gb278 hg w137 hbox hb
                         have n0_ := Aside0.mk (blk_below (g := gb237) (by (with_reducible repeat (first | refine bN ?_ _ | refine bD ?_ | refine bA ?_ _)); exact BK237.out) hb)
                         have n1_ := Aside0.mk (blk_below (g := gb238) (by (with_reducible repeat (first | refine bN ?_ _ | refine bD ?_ | refine bA ?_ _)); exact BK238.out) hb)
                         have n2_ := Aside0.mk (blk_below (g := gb252) (by (with_reducible repeat (first | refine bN ?_ _ | refine bD ?_ | refine bA ?_ _)); exact BK252.out) hb)
                         have n3_ := Aside0.mk (below_step (by repeat (first | (with_reducible first | exact HB.out | apply pA | apply pN | apply pD | refine pS ?_ GE237.out | refine pS ?_ GE238.out | refine pS ?_ GE252.out) | exact HB.out)) hb)
                         have n4_ := Aside0.mk (hbox)
                         have n5_ := Aside0.mk ((by rw [hg]; exact (below_size (by repeat (first | (with_reducible first | exact HB.out | apply pA | apply pN | apply pD | refine pS ?_ GE237.out | refine pS ?_ GE238.out | refine pS ?_ GE252.out) | exact HB.out))) : w.heap.size ≤ gb278))
                         have n6_ := Aside0.mk ((by rw [hg]; exact (below_size (by repeat (first | (with_reducible first | exact HB.out | apply pA | apply pN | apply pD | refine pS ?_ GE237.out | refine pS ?_ GE238.out | refine pS ?_ GE252.out) | exact HB.out))) : w.heap.size ≤ gb278))
                         have n7_ := Aside0.mk ((by rw [hg]; exact Nat.ne_of_lt (blk_lt (g := gb237) (by (with_reducible repeat (first | refine bN ?_ _ | refine bD ?_ | refine bA ?_ _)); exact BK237.out)) : gb237 ≠ gb278))
                         have n8_ := Aside0.mk ((by rw [hg]; exact Nat.ne_of_gt (blk_lt (g := gb237) (by (with_reducible repeat (first | refine bN ?_ _ | refine bD ?_ | refine bA ?_ _)); exact BK237.out)) : gb278 ≠ gb237))
                         have n9_ := Aside0.mk ((by rw [hg]; exact Nat.ne_of_lt (blk_lt (g := gb238) (by (with_reducible repeat (first | refine bN ?_ _ | refine bD ?_ | refine bA ?_ _)); exact BK238.out)) : gb238 ≠ gb278))
                         have n10_ := Aside0.mk ((by rw [hg]; exact Nat.ne_of_gt (blk_lt (g := gb238) (by (with_reducible repeat (first | refine bN ?_ _ | refine bD ?_ | refine bA ?_ _)); exact BK238.out)) : gb278 ≠ gb238))
                         have n11_ := Aside0.mk ((by rw [hg]; exact Nat.ne_of_lt (blk_lt (g := gb252) (by (with_reducible repeat (first | refine bN ?_ _ | refine bD ?_ | refine bA ?_ _)); exact BK252.out)) : gb252 ≠ gb278))
                         have n12_ := Aside0.mk ((by rw [hg]; exact Nat.ne_of_gt (blk_lt (g := gb252) (by (with_reducible repeat (first | refine bN ?_ _ | refine bD ?_ | refine bA ?_ _)); exact BK252.out)) : gb278 ≠ gb252))
                         clear BK237
                         clear BK238
                         clear BK252
                         clear HB
                         have BK237 := n0_
                         have BK238 := n1_
                         have BK252 := n2_
                         have HB := n3_
                         have BK278 := n4_
                         have GW278 := n5_
                         have GE278 := n6_
                         have NB237_278 := n7_
                         have NB278_237 := n8_
                         have NB238_278 := n9_
                         have NB278_238 := n10_
                         have NB252_278 := n11_
                         have NB278_252 := n12_
                         clear n0_ n1_ n2_ n3_ n4_ n5_ n6_ n7_ n8_ n9_ n10_ n11_ n12_
                         clear hb hbox hg
                         refine hK.out _ _ (br13 BK252.out (br14 BK237.out (bc8 BK238.out))) (fun hHeld => ?_)
                         clear hK K
                         refine norm_ (a' := ?_) ?_ ?_
                         rotate_left
                         · show Act.put _ (some 12) _ = _
                           simp only [Act.put, List.setIfInBounds_toArray, List.set_cons_zero, List.set_cons_succ, i64_w, i32_w]
                           rfl
                         exact norm_ (by simp only [putAll, Act.put, List.setIfInBounds_toArray, List.set_cons_zero, List.set_cons_succ]) (hCont (gb278) _ ⟨hHeld, (by (with_reducible repeat (first | refine bN ?_ _ | refine bD ?_ | refine bA ?_ _)); exact BK237.out), (by (with_reducible repeat (first | refine bN ?_ _ | refine bD ?_ | refine bA ?_ _)); exact BK238.out), (by (with_reducible repeat (first | refine bN ?_ _ | refine bD ?_ | refine bA ?_ _)); exact BK252.out), (by (with_reducible repeat (first | refine bN ?_ _ | refine bD ?_ | refine bA ?_ _)); exact BK278.out), GW278.out, GE278.out, NB237_278.out, NB278_237.out, NB238_278.out, NB278_238.out, NB252_278.out, NB278_252.out, (by repeat (first | (with_reducible first | exact HB.out | apply pA | apply pN | apply pD | refine pS ?_ GE237.out | refine pS ?_ GE238.out | refine pS ?_ GE252.out | refine pS ?_ GE278.out) | exact HB.out))⟩)
                       · skip
                         refine box_step ?hg (N := 12) ?hd (cs := #[.int .i64 0, .int .i64 0, .int .i64 0, .int .i64 0, .int .i64 0, .int .i64 0, .int .i64 0, .int .i64 0, .int .i64 0, .bool false, .int .i64 0, .int .i64 0, .int .i64 0]) (t := 58) ?hr ?_; (case hd => rfl); (case hg => rfl); (case hr => first | (go_simp; done) | (go_simp; rfl))
                         intro gb278 hg w136 hbox hb
                         have n0_ := Aside0.mk (blk_below (g := gb237) (by (with_reducible repeat (first | refine bN ?_ _ | refine bD ?_ | refine bA ?_ _)); exact BK237.out) hb)
                         have n1_ := Aside0.mk (blk_below (g := gb238) (by (with_reducible repeat (first | refine bN ?_ _ | refine bD ?_ | refine bA ?_ _)); exact BK238.out) hb)
                         have n2_ := Aside0.mk (blk_below (g := gb252) (by (with_reducible repeat (first | refine bN ?_ _ | refine bD ?_ | refine bA ?_ _)); exact BK252.out) hb)
                         have n3_ := Aside0.mk (below_step (by repeat (first | (with_reducible first | exact HB.out | apply pA | apply pN | apply pD | refine pS ?_ GE237.out | refine pS ?_ GE238.out | refine pS ?_ GE252.out) | exact HB.out)) hb)
                         have n4_ := Aside0.mk (hbox)
                         have n5_ := Aside0.mk ((by rw [hg]; exact (below_size (by repeat (first | (with_reducible first | exact HB.out | apply pA | apply pN | apply pD | refine pS ?_ GE237.out | refine pS ?_ GE238.out | refine pS ?_ GE252.out) | exact HB.out))) : w.heap.size ≤ gb278))
                         have n6_ := Aside0.mk ((by rw [hg]; exact (below_size (by repeat (first | (with_reducible first | exact HB.out | apply pA | apply pN | apply pD | refine pS ?_ GE237.out | refine pS ?_ GE238.out | refine pS ?_ GE252.out) | exact HB.out))) : w.heap.size ≤ gb278))
                         have n7_ := Aside0.mk ((by rw [hg]; exact Nat.ne_of_lt (blk_lt (g := gb237) (by (with_reducible repeat (first | refine bN ?_ _ | refine bD ?_ | refine bA ?_ _)); exact BK237.out)) : gb237 ≠ gb278))
                         have n8_ := Aside0.mk ((by rw [hg]; exact Nat.ne_of_gt (blk_lt (g := gb237) (by (with_reducible repeat (first | refine bN ?_ _ | refine bD ?_ | refine bA ?_ _)); exact BK237.out)) : gb278 ≠ gb237))
                         have n9_ := Aside0.mk ((by rw [hg]; exact Nat.ne_of_lt (blk_lt (g := gb238) (by (with_reducible repeat (first | refine bN ?_ _ | refine bD ?_ | refine bA ?_ _)); exact BK238.out)) : gb238 ≠ gb278))
                         have n10_ := Aside0.mk ((by rw [hg]; exact Nat.ne_of_gt (blk_lt (g := gb238) (by (with_reducible repeat (first | refine bN ?_ _ | refine bD ?_ | refine bA ?_ _)); exact BK238.out)) : gb278 ≠ gb238))
                         have n11_ := Aside0.mk ((by rw [hg]; exact Nat.ne_of_lt (blk_lt (g := gb252) (by (with_reducible repeat (first | refine bN ?_ _ | refine bD ?_ | refine bA ?_ _)); exact BK252.out)) : gb252 ≠ gb278))
                         have n12_ := Aside0.mk ((by rw [hg]; exact Nat.ne_of_gt (blk_lt (g := gb252) (by (with_reducible repeat (first | refine bN ?_ _ | refine bD ?_ | refine bA ?_ _)); exact BK252.out)) : gb278 ≠ gb252))
                         clear BK237
                         clear BK238
                         clear BK252
                         clear HB
                         have BK237 := n0_
                         have BK238 := n1_
                         have BK252 := n2_
                         have HB := n3_
                         have BK278 := n4_
                         have GW278 := n5_
                         have GE278 := n6_
                         have NB237_278 := n7_
                         have NB278_237 := n8_
                         have NB238_278 := n9_
                         have NB278_238 := n10_
                         have NB252_278 := n11_
                         have NB278_252 := n12_
                         clear n0_ n1_ n2_ n3_ n4_ n5_ n6_ n7_ n8_ n9_ n10_ n11_ n12_
                         clear hb hbox hg
                         refine hK.out _ _ (br13 BK252.out (br14 BK237.out (bc8 BK238.out))) (fun hHeld => ?_)
                         clear hK K
                         refine norm_ (a' := ?_) ?_ ?_
                         rotate_left
                         · show Act.put _ (some 12) _ = _
                           simp only [Act.put, List.setIfInBounds_toArray, List.set_cons_zero, List.set_cons_succ, i64_w, i32_w]
                           rfl
                         refine one_ (i := 4) (N := some 38) #[true, true, true, true, true, false, false, false, true, false, false] rfl rfl (one_of HT_.out (by kernel_rfl)) (by decide) (fun K hK => ?_)
                         refine goes_ Try.func43 (by kernel_rfl) rfl #[.agg #[.int .i64 t239, .int .i64 t240, .int .i64 t241, .int .i64 t242, .int .i64 t243, .int .i64 t244, .int .i64 t245, .int .i64 t246, .int .i64 t247, .bool t248, .int .i64 t249, .int .i64 t250, .int .i64 t251], .agg #[.int .i64 a0_0, .int .i64 a0_1, .int .i64 a0_2, .int .i64 a0_3, .int .i64 a0_4, .int .i64 a0_5, .int .i64 a0_6, .int .i64 a0_7, .int .i64 a0_8, .int .i64 a0_9, .int .i64 a0_10, .int .i64 a0_11, .int .i64 a0_12, .slice A0_13 l0_13.length c0_13], .agg #[.int .i64 t256, .int .i64 t257, .bool t258, .int .i64 t259, .int .i64 t260, .int .i64 t261, .int .i64 t262, .int .i64 t263]] (by rfl) rfl rfl (by (try simp only [List.map_toArray, List.map_cons, List.map_nil]); first | done | rfl | (simp only [List.length_drop, List.length_take]; rfl)) ?_
                         with_reducible refine (call_Bad.calls kj6 t239 t240 t241 t242 t243 t244 t245 t246 t247 t248 t249 t250 t251 a0_0 a0_1 a0_2 a0_3 a0_4 a0_5 a0_6 a0_7 a0_8 a0_9 a0_10 a0_11 a0_12 _ _ l0_13 t256 t257 t258 t259 t260 t261 t262 t263 t264 t265 t266 t267 t268 t269 t270 t271 t272 t273 t274 t275 t276 t277 _ ?side1 ?side2 A29.out).mono ?_
                         (case side1 => repeat (first | exact (Kd.C_below HR0_13.out HB.out) | (with_reducible refine Kd.C_alloc ?_ _) | (with_reducible refine Kd.C_drewN ?_ _) | (with_reducible refine Kd.C_drew ?_)))
                         (case side2 => exact HC0_13.out)
                         rintro e w137 ⟨rfl, hb⟩
                         refine ⟨_, rfl, ?_⟩
                         have n0_ := Aside0.mk (blk_below (g := gb237) (by (with_reducible repeat (first | refine bN ?_ _ | refine bD ?_ | refine bA ?_ _)); exact BK237.out) hb)
                         have n1_ := Aside0.mk (blk_below (g := gb238) (by (with_reducible repeat (first | refine bN ?_ _ | refine bD ?_ | refine bA ?_ _)); exact BK238.out) hb)
                         have n2_ := Aside0.mk (blk_below (g := gb252) (by (with_reducible repeat (first | refine bN ?_ _ | refine bD ?_ | refine bA ?_ _)); exact BK252.out) hb)
                         have n3_ := Aside0.mk (blk_below (g := gb278) (by (with_reducible repeat (first | refine bN ?_ _ | refine bD ?_ | refine bA ?_ _)); exact BK278.out) hb)
                         have n4_ := Aside0.mk (below_step (by repeat (first | (with_reducible first | exact HB.out | apply pA | apply pN | apply pD | refine pS ?_ GE237.out | refine pS ?_ GE238.out | refine pS ?_ GE252.out | refine pS ?_ GE278.out) | exact HB.out)) hb)
                         clear BK237
                         clear BK238
                         clear BK252
                         clear BK278
                         clear HB
                         have BK237 := n0_
                         have BK238 := n1_
                         have BK252 := n2_
                         have BK278 := n3_
                         have HB := n4_
                         clear n0_ n1_ n2_ n3_ n4_
                         (try clear hb)
                         (try clear hb2)
                         (try clear hk)
                         (try clear hi)
                         refine hK.out _ _ (br13 BK252.out (br14 BK237.out (bc8 BK238.out))) (fun hHeld => ?_)
                         clear hK K
                         refine norm_ (a' := ?_) ?_ ?_
                         rotate_left
                         · show Act.put _ (some 38) _ = _
                           simp only [Act.put, List.setIfInBounds_toArray, List.set_cons_zero, List.set_cons_succ, i64_w, i32_w]
                           rfl
                         refine pure_ (i := 5) (N := some 33) (v := ?_) (a' := ?_) #[true, true, true, true, true, true, false, false, true, false, false] rfl rfl (any_of HT_.out (by kernel_rfl)) (fun _ _ _ h => h) (Or.inl ⟨by rfl, ?_⟩) ?_ ?_
                         rotate_left
                         · intro w'
                           go_simp
                           with_reducible rfl
                         rotate_left
                         · simp only [Act.put, List.setIfInBounds_toArray, List.set_cons_zero, List.set_cons_succ, i64_w, i32_w]
                           rfl
                         refine pure_ (i := 6) (N := some 39) (v := ?_) (a' := ?_) #[true, true, true, true, true, true, true, false, true, false, false] rfl rfl (any_of HT_.out (by kernel_rfl)) (fun _ _ _ h => h) (Or.inl ⟨by rfl, ?_⟩) ?_ ?_
                         rotate_left
                         · intro w'
                           go_simp
                           with_reducible rfl
                         rotate_left
                         · simp only [Act.put, List.setIfInBounds_toArray, List.set_cons_zero, List.set_cons_succ, i64_w, i32_w]
                           rfl
                         refine pure_ (i := 7) (N := some 40) (v := ?_) (a' := ?_) #[true, true, true, true, true, true, true, true, true, false, false] rfl rfl (any_of HT_.out (by kernel_rfl)) (fun _ _ _ h => h) (Or.inl ⟨by rfl, ?_⟩) ?_ ?_
                         rotate_left
                         · intro w'
                           go_simp
                           with_reducible rfl
                         rotate_left
                         · simp only [Act.put, List.setIfInBounds_toArray, List.set_cons_zero, List.set_cons_succ, i64_w, i32_w]
                           rfl
                         exact norm_ (by simp only [putAll, Act.put, List.setIfInBounds_toArray, List.set_cons_zero, List.set_cons_succ]) (hCont (gb278) _ ⟨hHeld, (by (with_reducible repeat (first | refine bN ?_ _ | refine bD ?_ | refine bA ?_ _)); exact BK237.out), (by (with_reducible repeat (first | refine bN ?_ _ | refine bD ?_ | refine bA ?_ _)); exact BK238.out), (by (with_reducible repeat (first | refine bN ?_ _ | refine bD ?_ | refine bA ?_ _)); exact BK252.out), (by (with_reducible repeat (first | refine bN ?_ _ | refine bD ?_ | refine bA ?_ _)); exact BK278.out), GW278.out, GE278.out, NB237_278.out, NB278_237.out, NB238_278.out, NB278_238.out, NB252_278.out, NB278_252.out, (by repeat (first | (with_reducible first | exact HB.out | apply pA | apply pN | apply pD | refine pS ?_ GE237.out | refine pS ?_ GE238.out | refine pS ?_ GE252.out | refine pS ?_ GE278.out) | exact HB.out))⟩)
                     · skip
                       refine box_step ?hg (N := 12) ?hd (cs := #[.int .i64 0, .int .i64 0, .int .i64 0, .int .i64 0, .int .i64 0, .int .i64 0, .int .i64 0, .int .i64 0, .int .i64 0, .bool false, .int .i64 0, .int .i64 0, .int .i64 0]) (t := 58) ?hr ?_; (case hd => rfl); (case hg => rfl); (case hr => first | (go_simp; done) | (go_simp; rfl))
                       intro gb278 hg w135 hbox hb
                       have n0_ := Aside0.mk (blk_below (g := gb237) (by (with_reducible repeat (first | refine bN ?_ _ | refine bD ?_ | refine bA ?_ _)); exact BK237.out) hb)
                       have n1_ := Aside0.mk (blk_below (g := gb238) (by (with_reducible repeat (first | refine bN ?_ _ | refine bD ?_ | refine bA ?_ _)); exact BK238.out) hb)
                       have n2_ := Aside0.mk (blk_below (g := gb252) (by (with_reducible repeat (first | refine bN ?_ _ | refine bD ?_ | refine bA ?_ _)); exact BK252.out) hb)
                       have n3_ := Aside0.mk (below_step (by repeat (first | (with_reducible first | exact HB.out | apply pA | apply pN | apply pD | refine pS ?_ GE237.out | refine pS ?_ GE238.out | refine pS ?_ GE252.out) | exact HB.out)) hb)
                       have n4_ := Aside0.mk (hbox)
                       have n5_ := Aside0.mk ((by rw [hg]; exact (below_size (by repeat (first | (with_reducible first | exact HB.out | apply pA | apply pN | apply pD | refine pS ?_ GE237.out | refine pS ?_ GE238.out | refine pS ?_ GE252.out) | exact HB.out))) : w.heap.size ≤ gb278))
                       have n6_ := Aside0.mk ((by rw [hg]; exact (below_size (by repeat (first | (with_reducible first | exact HB.out | apply pA | apply pN | apply pD | refine pS ?_ GE237.out | refine pS ?_ GE238.out | refine pS ?_ GE252.out) | exact HB.out))) : w.heap.size ≤ gb278))
                       have n7_ := Aside0.mk ((by rw [hg]; exact Nat.ne_of_lt (blk_lt (g := gb237) (by (with_reducible repeat (first | refine bN ?_ _ | refine bD ?_ | refine bA ?_ _)); exact BK237.out)) : gb237 ≠ gb278))
                       have n8_ := Aside0.mk ((by rw [hg]; exact Nat.ne_of_gt (blk_lt (g := gb237) (by (with_reducible repeat (first | refine bN ?_ _ | refine bD ?_ | refine bA ?_ _)); exact BK237.out)) : gb278 ≠ gb237))
                       have n9_ := Aside0.mk ((by rw [hg]; exact Nat.ne_of_lt (blk_lt (g := gb238) (by (with_reducible repeat (first | refine bN ?_ _ | refine bD ?_ | refine bA ?_ _)); exact BK238.out)) : gb238 ≠ gb278))
                       have n10_ := Aside0.mk ((by rw [hg]; exact Nat.ne_of_gt (blk_lt (g := gb238) (by (with_reducible repeat (first | refine bN ?_ _ | refine bD ?_ | refine bA ?_ _)); exact BK238.out)) : gb278 ≠ gb238))
                       have n11_ := Aside0.mk ((by rw [hg]; exact Nat.ne_of_lt (blk_lt (g := gb252) (by (with_reducible repeat (first | refine bN ?_ _ | refine bD ?_ | refine bA ?_ _)); exact BK252.out)) : gb252 ≠ gb278))
                       have n12_ := Aside0.mk ((by rw [hg]; exact Nat.ne_of_gt (blk_lt (g := gb252) (by (with_reducible repeat (first | refine bN ?_ _ | refine bD ?_ | refine bA ?_ _)); exact BK252.out)) : gb278 ≠ gb252))
                       clear BK237
                       clear BK238
                       clear BK252
                       clear HB
                       have BK237 := n0_
                       have BK238 := n1_
                       have BK252 := n2_
                       have HB := n3_
                       have BK278 := n4_
                       have GW278 := n5_
                       have GE278 := n6_
                       have NB237_278 := n7_
                       have NB278_237 := n8_
                       have NB238_278 := n9_
                       have NB278_238 := n10_
                       have NB252_278 := n11_
                       have NB278_252 := n12_
                       clear n0_ n1_ n2_ n3_ n4_ n5_ n6_ n7_ n8_ n9_ n10_ n11_ n12_
                       clear hb hbox hg
                       refine hK.out _ _ (br13 BK252.out (br14 BK237.out (bc8 BK238.out))) (fun hHeld => ?_)
                       clear hK K
                       refine norm_ (a' := ?_) ?_ ?_
                       rotate_left
                       · show Act.put _ (some 12) _ = _
                         simp only [Act.put, List.setIfInBounds_toArray, List.set_cons_zero, List.set_cons_succ, i64_w, i32_w]
                         rfl
                       refine one_ (i := 3) (N := some 37) #[true, true, true, true, false, false, false, false, true, false, false] rfl rfl (one_of HT_.out (by kernel_rfl)) (by decide) (fun K hK => ?_)
                       refine goes_ Try.func44 (by kernel_rfl) rfl #[.agg #[.int .i64 a1_0, .int .i64 a1_1, .bool a1_2, .int .i64 a1_3, .int .i64 a1_4, .int .i64 a1_5, .int .i64 a1_6, .int .i64 a1_7]] (by rfl) rfl rfl (by (try simp only [List.map_toArray, List.map_cons, List.map_nil]); first | done | rfl | (simp only [List.length_drop, List.length_take]; rfl)) ?_
                       with_reducible refine (hourglasslaw21_mine.calls a1_0 a1_1 a1_2 a1_3 a1_4 a1_5 a1_6 a1_7 t256 t257 t258 t259 t260 t261 t262 t263 _ A28.out).mono ?_
                       rintro e w136 ⟨rfl, hb⟩
                       refine ⟨_, rfl, ?_⟩
                       have n0_ := Aside0.mk (blk_below (g := gb237) (by (with_reducible repeat (first | refine bN ?_ _ | refine bD ?_ | refine bA ?_ _)); exact BK237.out) hb)
                       have n1_ := Aside0.mk (blk_below (g := gb238) (by (with_reducible repeat (first | refine bN ?_ _ | refine bD ?_ | refine bA ?_ _)); exact BK238.out) hb)
                       have n2_ := Aside0.mk (blk_below (g := gb252) (by (with_reducible repeat (first | refine bN ?_ _ | refine bD ?_ | refine bA ?_ _)); exact BK252.out) hb)
                       have n3_ := Aside0.mk (blk_below (g := gb278) (by (with_reducible repeat (first | refine bN ?_ _ | refine bD ?_ | refine bA ?_ _)); exact BK278.out) hb)
                       have n4_ := Aside0.mk (below_step (by repeat (first | (with_reducible first | exact HB.out | apply pA | apply pN | apply pD | refine pS ?_ GE237.out | refine pS ?_ GE238.out | refine pS ?_ GE252.out | refine pS ?_ GE278.out) | exact HB.out)) hb)
                       clear BK237
                       clear BK238
                       clear BK252
                       clear BK278
                       clear HB
                       have BK237 := n0_
                       have BK238 := n1_
                       have BK252 := n2_
                       have BK278 := n3_
                       have HB := n4_
                       clear n0_ n1_ n2_ n3_ n4_
                       (try clear hb)
                       (try clear hb2)
                       (try clear hk)
                       (try clear hi)
                       refine hK.out _ _ (br13 BK252.out (br14 BK237.out (bc8 BK238.out))) (fun hHeld => ?_)
                       clear hK K
                       refine norm_ (a' := ?_) ?_ ?_
                       rotate_left
                       · show Act.put _ (some 37) _ = _
                         simp only [Act.put, List.setIfInBounds_toArray, List.set_cons_zero, List.set_cons_succ, i64_w, i32_w]
                         rfl
                       refine one_ (i := 4) (N := some 38) #[true, true, true, true, true, false, false, false, true, false, false] rfl rfl (one_of HT_.out (by kernel_rfl)) (by decide) (fun K hK => ?_)
                       refine goes_ Try.func43 (by kernel_rfl) rfl #[.agg #[.int .i64 t239, .int .i64 t240, .int .i64 t241, .int .i64 t242, .int .i64 t243, .int .i64 t244, .int .i64 t245, .int .i64 t246, .int .i64 t247, .bool t248, .int .i64 t249, .int .i64 t250, .int .i64 t251], .agg #[.int .i64 a0_0, .int .i64 a0_1, .int .i64 a0_2, .int .i64 a0_3, .int .i64 a0_4, .int .i64 a0_5, .int .i64 a0_6, .int .i64 a0_7, .int .i64 a0_8, .int .i64 a0_9, .int .i64 a0_10, .int .i64 a0_11, .int .i64 a0_12, .slice A0_13 l0_13.length c0_13], .agg #[.int .i64 t256, .int .i64 t257, .bool t258, .int .i64 t259, .int .i64 t260, .int .i64 t261, .int .i64 t262, .int .i64 t263]] (by rfl) rfl rfl (by (try simp only [List.map_toArray, List.map_cons, List.map_nil]); first | done | rfl | (simp only [List.length_drop, List.length_take]; rfl)) ?_
                       with_reducible refine (call_Bad.calls kj6 t239 t240 t241 t242 t243 t244 t245 t246 t247 t248 t249 t250 t251 a0_0 a0_1 a0_2 a0_3 a0_4 a0_5 a0_6 a0_7 a0_8 a0_9 a0_10 a0_11 a0_12 _ _ l0_13 t256 t257 t258 t259 t260 t261 t262 t263 t264 t265 t266 t267 t268 t269 t270 t271 t272 t273 t274 t275 t276 t277 _ ?side1 ?side2 A29.out).mono ?_
                       (case side1 => repeat (first | exact (Kd.C_below HR0_13.out HB.out) | (with_reducible refine Kd.C_alloc ?_ _) | (with_reducible refine Kd.C_drewN ?_ _) | (with_reducible refine Kd.C_drew ?_)))
                       (case side2 => exact HC0_13.out)
                       rintro e w137 ⟨rfl, hb⟩
                       refine ⟨_, rfl, ?_⟩
                       have n0_ := Aside0.mk (blk_below (g := gb237) (by (with_reducible repeat (first | refine bN ?_ _ | refine bD ?_ | refine bA ?_ _)); exact BK237.out) hb)
                       have n1_ := Aside0.mk (blk_below (g := gb238) (by (with_reducible repeat (first | refine bN ?_ _ | refine bD ?_ | refine bA ?_ _)); exact BK238.out) hb)
                       have n2_ := Aside0.mk (blk_below (g := gb252) (by (with_reducible repeat (first | refine bN ?_ _ | refine bD ?_ | refine bA ?_ _)); exact BK252.out) hb)
                       have n3_ := Aside0.mk (blk_below (g := gb278) (by (with_reducible repeat (first | refine bN ?_ _ | refine bD ?_ | refine bA ?_ _)); exact BK278.out) hb)
                       have n4_ := Aside0.mk (below_step (by repeat (first | (with_reducible first | exact HB.out | apply pA | apply pN | apply pD | refine pS ?_ GE237.out | refine pS ?_ GE238.out | refine pS ?_ GE252.out | refine pS ?_ GE278.out) | exact HB.out)) hb)
                       clear BK237
                       clear BK238
                       clear BK252
                       clear BK278
                       clear HB
                       have BK237 := n0_
                       have BK238 := n1_
                       have BK252 := n2_
                       have BK278 := n3_
                       have HB := n4_
                       clear n0_ n1_ n2_ n3_ n4_
                       (try clear hb)
                       (try clear hb2)
                       (try clear hk)
                       (try clear hi)
                       refine hK.out _ _ (br13 BK252.out (br14 BK237.out (bc8 BK238.out))) (fun hHeld => ?_)
                       clear hK K
                       refine norm_ (a' := ?_) ?_ ?_
                       rotate_left
                       · show Act.put _ (some 38) _ = _
                         simp only [Act.put, List.setIfInBounds_toArray, List.set_cons_zero, List.set_cons_succ, i64_w, i32_w]
                         rfl
                       refine pure_ (i := 5) (N := some 33) (v := ?_) (a' := ?_) #[true, true, true, true, true, true, false, false, true, false, false] rfl rfl (any_of HT_.out (by kernel_rfl)) (fun _ _ _ h => h) (Or.inl ⟨by rfl, ?_⟩) ?_ ?_
                       rotate_left
                       · intro w'
                         go_simp
                         with_reducible rfl
                       rotate_left
                       · simp only [Act.put, List.setIfInBounds_toArray, List.set_cons_zero, List.set_cons_succ, i64_w, i32_w]
                         rfl
                       refine pure_ (i := 6) (N := some 39) (v := ?_) (a' := ?_) #[true, true, true, true, true, true, true, false, true, false, false] rfl rfl (any_of HT_.out (by kernel_rfl)) (fun _ _ _ h => h) (Or.inl ⟨by rfl, ?_⟩) ?_ ?_
                       rotate_left
                       · intro w'
                         go_simp
                         with_reducible rfl
                       rotate_left
                       · simp only [Act.put, List.setIfInBounds_toArray, List.set_cons_zero, List.set_cons_succ, i64_w, i32_w]
                         rfl
                       refine pure_ (i := 7) (N := some 40) (v := ?_) (a' := ?_) #[true, true, true, true, true, true, true, true, true, false, false] rfl rfl (any_of HT_.out (by kernel_rfl)) (fun _ _ _ h => h) (Or.inl ⟨by rfl, ?_⟩) ?_ ?_
                       rotate_left
                       · intro w'
                         go_simp
                         with_reducible rfl
                       rotate_left
                       · simp only [Act.put, List.setIfInBounds_toArray, List.set_cons_zero, List.set_cons_succ, i64_w, i32_w]
                         rfl
                       exact norm_ (by simp only [putAll, Act.put, List.setIfInBounds_toArray, List.set_cons_zero, List.set_cons_succ]) (hCont (gb278) _ ⟨hHeld, (by (with_reducible repeat (first | refine bN ?_ _ | refine bD ?_ | refine bA ?_ _)); exact BK237.out), (by (with_reducible repeat (first | refine bN ?_ _ | refine bD ?_ | refine bA ?_ _)); exact BK238.out), (by (with_reducible repeat (first | refine bN ?_ _ | refine bD ?_ | refine bA ?_ _)); exact BK252.out), (by (with_reducible repeat (first | refine bN ?_ _ | refine bD ?_ | refine bA ?_ _)); exact BK278.out), GW278.out, GE278.out, NB237_278.out, NB278_237.out, NB238_278.out, NB278_238.out, NB252_278.out, NB278_252.out, (by repeat (first | (with_reducible first | exact HB.out | apply pA | apply pN | apply pD | refine pS ?_ GE237.out | refine pS ?_ GE238.out | refine pS ?_ GE252.out | refine pS ?_ GE278.out) | exact HB.out))⟩)
                   rintro gb278 w138 ⟨hS_, h0_, h1_, h2_, h3_, h4_, h5_, h6_, h7_, h8_, h9_, h10_, h11_, h12_⟩
                   have n0_ : Aside0 (w138.heap[gb237]? = some (.cells #[.int .i64 a0_0, .int .i64 a0_1, .int .i64 a0_2, .int .i64 a0_3, .int .i64 a0_4, .int .i64 a0_5, .int .i64 a0_6, .int .i64 a0_7, .int .i64 a0_8, .int .i64 a0_9, .int .i64 a0_10, .int .i64 a0_11, .int .i64 a0_12, .slice A0_13 l0_13.length c0_13] 72 (0, 0))) := ⟨h0_⟩
                   have n1_ : Aside0 (w138.heap[gb238]? = some (.cells #[.int .i64 a1_0, .int .i64 a1_1, .bool a1_2, .int .i64 a1_3, .int .i64 a1_4, .int .i64 a1_5, .int .i64 a1_6, .int .i64 a1_7] 77 (0, 0))) := ⟨h1_⟩
                   have n2_ : Aside0 (w138.heap[gb252]? = some (.cells #[.int .i64 t239, .int .i64 t240, .int .i64 t241, .int .i64 t242, .int .i64 t243, .int .i64 t244, .int .i64 t245, .int .i64 t246, .int .i64 t247, .bool t248, .int .i64 t249, .int .i64 t250, .int .i64 t251] 58 (0, 0))) := ⟨h2_⟩
                   have n3_ : Aside0 (w138.heap[gb278]? = some (.cells #[.int .i64 0, .int .i64 0, .int .i64 0, .int .i64 0, .int .i64 0, .int .i64 0, .int .i64 0, .int .i64 0, .int .i64 0, .bool false, .int .i64 0, .int .i64 0, .int .i64 0] 58 (0, 0))) := ⟨h3_⟩
                   have n4_ : Aside0 (w.heap.size ≤ gb278) := ⟨h4_⟩
                   have n5_ : Aside0 (w.heap.size ≤ gb278) := ⟨h5_⟩
                   have n6_ : Aside0 (gb237 ≠ gb278) := ⟨h6_⟩
                   have n7_ : Aside0 (gb278 ≠ gb237) := ⟨h7_⟩
                   have n8_ : Aside0 (gb238 ≠ gb278) := ⟨h8_⟩
                   have n9_ : Aside0 (gb278 ≠ gb238) := ⟨h9_⟩
                   have n10_ : Aside0 (gb252 ≠ gb278) := ⟨h10_⟩
                   have n11_ : Aside0 (gb278 ≠ gb252) := ⟨h11_⟩
                   have n12_ : Aside0 (Below w.heap.size w w138) := ⟨h12_⟩
                   clear BK237
                   clear BK238
                   clear BK252
                   clear HB
                   clear h0_ h1_ h2_ h3_ h4_ h5_ h6_ h7_ h8_ h9_ h10_ h11_ h12_
                   have BK237 := n0_
                   have BK238 := n1_
                   have BK252 := n2_
                   have BK278 := n3_
                   have GW278 := n4_
                   have GE278 := n5_
                   have NB237_278 := n6_
                   have NB278_237 := n7_
                   have NB238_278 := n8_
                   have NB278_238 := n9_
                   have NB252_278 := n10_
                   have NB278_252 := n11_
                   have HB := n12_
                   clear n0_ n1_ n2_ n3_ n4_ n5_ n6_ n7_ n8_ n9_ n10_ n11_ n12_
                   have hHeld : w138.cell? ⟨gb252, 0, none⟩ = some (.int .i64 t239) ∧ w138.cell? ⟨gb252, 1, none⟩ = some (.int .i64 t240) ∧ w138.cell? ⟨gb252, 2, none⟩ = some (.int .i64 t241) ∧ w138.cell? ⟨gb252, 3, none⟩ = some (.int .i64 t242) ∧ w138.cell? ⟨gb252, 4, none⟩ = some (.int .i64 t243) ∧ w138.cell? ⟨gb252, 5, none⟩ = some (.int .i64 t244) ∧ w138.cell? ⟨gb252, 6, none⟩ = some (.int .i64 t245) ∧ w138.cell? ⟨gb252, 7, none⟩ = some (.int .i64 t246) ∧ w138.cell? ⟨gb252, 8, none⟩ = some (.int .i64 t247) ∧ w138.cell? ⟨gb252, 9, none⟩ = some (.bool t248) ∧ w138.cell? ⟨gb252, 10, none⟩ = some (.int .i64 t249) ∧ w138.cell? ⟨gb252, 11, none⟩ = some (.int .i64 t250) ∧ w138.cell? ⟨gb252, 12, none⟩ = some (.int .i64 t251) ∧ w138.cell? ⟨gb237, 0, none⟩ = some (.int .i64 a0_0) ∧ w138.cell? ⟨gb237, 1, none⟩ = some (.int .i64 a0_1) ∧ w138.cell? ⟨gb237, 2, none⟩ = some (.int .i64 a0_2) ∧ w138.cell? ⟨gb237, 3, none⟩ = some (.int .i64 a0_3) ∧ w138.cell? ⟨gb237, 4, none⟩ = some (.int .i64 a0_4) ∧ w138.cell? ⟨gb237, 5, none⟩ = some (.int .i64 a0_5) ∧ w138.cell? ⟨gb237, 6, none⟩ = some (.int .i64 a0_6) ∧ w138.cell? ⟨gb237, 7, none⟩ = some (.int .i64 a0_7) ∧ w138.cell? ⟨gb237, 8, none⟩ = some (.int .i64 a0_8) ∧ w138.cell? ⟨gb237, 9, none⟩ = some (.int .i64 a0_9) ∧ w138.cell? ⟨gb237, 10, none⟩ = some (.int .i64 a0_10) ∧ w138.cell? ⟨gb237, 11, none⟩ = some (.int .i64 a0_11) ∧ w138.cell? ⟨gb237, 12, none⟩ = some (.int .i64 a0_12) ∧ w138.cell? ⟨gb237, 13, none⟩ = some (.slice A0_13 l0_13.length c0_13) ∧ w138.cell? ⟨gb238, 0, none⟩ = some (.int .i64 a1_0) ∧ w138.cell? ⟨gb238, 1, none⟩ = some (.int .i64 a1_1) ∧ w138.cell? ⟨gb238, 2, none⟩ = some (.bool a1_2) ∧ w138.cell? ⟨gb238, 3, none⟩ = some (.int .i64 a1_3) ∧ w138.cell? ⟨gb238, 4, none⟩ = some (.int .i64 a1_4) ∧ w138.cell? ⟨gb238, 5, none⟩ = some (.int .i64 a1_5) ∧ w138.cell? ⟨gb238, 6, none⟩ = some (.int .i64 a1_6) ∧ w138.cell? ⟨gb238, 7, none⟩ = some (.int .i64 a1_7) := hS_
                   refine norm_ (a' := ?_) ?_ ?_
                   rotate_left
                   · simp only [putAll, Act.put, List.setIfInBounds_toArray, List.set_cons_zero, List.set_cons_succ]
                     rfl
                   refine one_ (i := 9) (N := none) #[true, true, true, true, true, true, true, true, true, true, false] rfl rfl (one_of HT_.out (by kernel_rfl)) (by decide) (fun K hK => ?_)
                   have hs139 : w138.cell? ⟨gb278, 0, none⟩ = some (.int .i64 0) := (blk_cell BK278.out 0).trans rfl
                   have hfs139 := blk_frozen BK278.out 0
                   have hns139_0 := NB237_278.out
                   have hns139_1 := NB238_278.out
                   have hns139_2 := NB252_278.out
                   have hms139_0 := NB278_237.out
                   have hms139_1 := NB278_238.out
                   have hms139_2 := NB278_252.out
                   have hs140 : w138.cell? ⟨gb278, 1, none⟩ = some (.int .i64 0) := (blk_cell BK278.out 1).trans rfl
                   have hfs140 := blk_frozen BK278.out 1
                   have hns140_0 := NB237_278.out
                   have hns140_1 := NB238_278.out
                   have hns140_2 := NB252_278.out
                   have hms140_0 := NB278_237.out
                   have hms140_1 := NB278_238.out
                   have hms140_2 := NB278_252.out
                   have hs141 : w138.cell? ⟨gb278, 2, none⟩ = some (.int .i64 0) := (blk_cell BK278.out 2).trans rfl
                   have hfs141 := blk_frozen BK278.out 2
                   have hns141_0 := NB237_278.out
                   have hns141_1 := NB238_278.out
                   have hns141_2 := NB252_278.out
                   have hms141_0 := NB278_237.out
                   have hms141_1 := NB278_238.out
                   have hms141_2 := NB278_252.out
                   have hs142 : w138.cell? ⟨gb278, 3, none⟩ = some (.int .i64 0) := (blk_cell BK278.out 3).trans rfl
                   have hfs142 := blk_frozen BK278.out 3
                   have hns142_0 := NB237_278.out
                   have hns142_1 := NB238_278.out
                   have hns142_2 := NB252_278.out
                   have hms142_0 := NB278_237.out
                   have hms142_1 := NB278_238.out
                   have hms142_2 := NB278_252.out
                   have hs143 : w138.cell? ⟨gb278, 4, none⟩ = some (.int .i64 0) := (blk_cell BK278.out 4).trans rfl
                   have hfs143 := blk_frozen BK278.out 4
                   have hns143_0 := NB237_278.out
                   have hns143_1 := NB238_278.out
                   have hns143_2 := NB252_278.out
                   have hms143_0 := NB278_237.out
                   have hms143_1 := NB278_238.out
                   have hms143_2 := NB278_252.out
                   have hs144 : w138.cell? ⟨gb278, 5, none⟩ = some (.int .i64 0) := (blk_cell BK278.out 5).trans rfl
                   have hfs144 := blk_frozen BK278.out 5
                   have hns144_0 := NB237_278.out
                   have hns144_1 := NB238_278.out
                   have hns144_2 := NB252_278.out
                   have hms144_0 := NB278_237.out
                   have hms144_1 := NB278_238.out
                   have hms144_2 := NB278_252.out
                   have hs145 : w138.cell? ⟨gb278, 6, none⟩ = some (.int .i64 0) := (blk_cell BK278.out 6).trans rfl
                   have hfs145 := blk_frozen BK278.out 6
                   have hns145_0 := NB237_278.out
                   have hns145_1 := NB238_278.out
                   have hns145_2 := NB252_278.out
                   have hms145_0 := NB278_237.out
                   have hms145_1 := NB278_238.out
                   have hms145_2 := NB278_252.out
                   have hs146 : w138.cell? ⟨gb278, 7, none⟩ = some (.int .i64 0) := (blk_cell BK278.out 7).trans rfl
                   have hfs146 := blk_frozen BK278.out 7
                   have hns146_0 := NB237_278.out
                   have hns146_1 := NB238_278.out
                   have hns146_2 := NB252_278.out
                   have hms146_0 := NB278_237.out
                   have hms146_1 := NB278_238.out
                   have hms146_2 := NB278_252.out
                   have hs147 : w138.cell? ⟨gb278, 8, none⟩ = some (.int .i64 0) := (blk_cell BK278.out 8).trans rfl
                   have hfs147 := blk_frozen BK278.out 8
                   have hns147_0 := NB237_278.out
                   have hns147_1 := NB238_278.out
                   have hns147_2 := NB252_278.out
                   have hms147_0 := NB278_237.out
                   have hms147_1 := NB278_238.out
                   have hms147_2 := NB278_252.out
                   have hs148 : w138.cell? ⟨gb278, 9, none⟩ = some (.bool false) := (blk_cell BK278.out 9).trans rfl
                   have hfs148 := blk_frozen BK278.out 9
                   have hns148_0 := NB237_278.out
                   have hns148_1 := NB238_278.out
                   have hns148_2 := NB252_278.out
                   have hms148_0 := NB278_237.out
                   have hms148_1 := NB278_238.out
                   have hms148_2 := NB278_252.out
                   have hs149 : w138.cell? ⟨gb278, 10, none⟩ = some (.int .i64 0) := (blk_cell BK278.out 10).trans rfl
                   have hfs149 := blk_frozen BK278.out 10
                   have hns149_0 := NB237_278.out
                   have hns149_1 := NB238_278.out
                   have hns149_2 := NB252_278.out
                   have hms149_0 := NB278_237.out
                   have hms149_1 := NB278_238.out
                   have hms149_2 := NB278_252.out
                   have hs150 : w138.cell? ⟨gb278, 11, none⟩ = some (.int .i64 0) := (blk_cell BK278.out 11).trans rfl
                   have hfs150 := blk_frozen BK278.out 11
                   have hns150_0 := NB237_278.out
                   have hns150_1 := NB238_278.out
                   have hns150_2 := NB252_278.out
                   have hms150_0 := NB278_237.out
                   have hms150_1 := NB278_238.out
                   have hms150_2 := NB278_252.out
                   have hs151 : w138.cell? ⟨gb278, 12, none⟩ = some (.int .i64 0) := (blk_cell BK278.out 12).trans rfl
                   have hfs151 := blk_frozen BK278.out 12
                   have hns151_0 := NB237_278.out
                   have hns151_1 := NB238_278.out
                   have hns151_2 := NB252_278.out
                   have hms151_0 := NB278_237.out
                   have hms151_1 := NB278_238.out
                   have hms151_2 := NB278_252.out
                   refine skip_ (w1 := ?_) (by rfl) rfl ?_ ?_
                   rotate_left
                   · go_simp
                     rfl
                   refine hK.out _ _ ⟨(by (iterate 13 (refine (cell_far (p := ⟨gb278, _, none⟩) NB252_278.out _).trans ?_)); exact hHeld.1), (by (iterate 13 (refine (cell_far (p := ⟨gb278, _, none⟩) NB252_278.out _).trans ?_)); exact hHeld.2.1), (by (iterate 13 (refine (cell_far (p := ⟨gb278, _, none⟩) NB252_278.out _).trans ?_)); exact hHeld.2.2.1), (by (iterate 13 (refine (cell_far (p := ⟨gb278, _, none⟩) NB252_278.out _).trans ?_)); exact hHeld.2.2.2.1), (by (iterate 13 (refine (cell_far (p := ⟨gb278, _, none⟩) NB252_278.out _).trans ?_)); exact hHeld.2.2.2.2.1), (by (iterate 13 (refine (cell_far (p := ⟨gb278, _, none⟩) NB252_278.out _).trans ?_)); exact hHeld.2.2.2.2.2.1), (by (iterate 13 (refine (cell_far (p := ⟨gb278, _, none⟩) NB252_278.out _).trans ?_)); exact hHeld.2.2.2.2.2.2.1), (by (iterate 13 (refine (cell_far (p := ⟨gb278, _, none⟩) NB252_278.out _).trans ?_)); exact hHeld.2.2.2.2.2.2.2.1), (by (iterate 13 (refine (cell_far (p := ⟨gb278, _, none⟩) NB252_278.out _).trans ?_)); exact hHeld.2.2.2.2.2.2.2.2.1), (by (iterate 13 (refine (cell_far (p := ⟨gb278, _, none⟩) NB252_278.out _).trans ?_)); exact hHeld.2.2.2.2.2.2.2.2.2.1), (by (iterate 13 (refine (cell_far (p := ⟨gb278, _, none⟩) NB252_278.out _).trans ?_)); exact hHeld.2.2.2.2.2.2.2.2.2.2.1), (by (iterate 13 (refine (cell_far (p := ⟨gb278, _, none⟩) NB252_278.out _).trans ?_)); exact hHeld.2.2.2.2.2.2.2.2.2.2.2.1), (by (iterate 13 (refine (cell_far (p := ⟨gb278, _, none⟩) NB252_278.out _).trans ?_)); exact hHeld.2.2.2.2.2.2.2.2.2.2.2.2.1), (by (iterate 13 (refine (cell_far (p := ⟨gb278, _, none⟩) NB237_278.out _).trans ?_)); exact hHeld.2.2.2.2.2.2.2.2.2.2.2.2.2.1), (by (iterate 13 (refine (cell_far (p := ⟨gb278, _, none⟩) NB237_278.out _).trans ?_)); exact hHeld.2.2.2.2.2.2.2.2.2.2.2.2.2.2.1), (by (iterate 13 (refine (cell_far (p := ⟨gb278, _, none⟩) NB237_278.out _).trans ?_)); exact hHeld.2.2.2.2.2.2.2.2.2.2.2.2.2.2.2.1), (by (iterate 13 (refine (cell_far (p := ⟨gb278, _, none⟩) NB237_278.out _).trans ?_)); exact hHeld.2.2.2.2.2.2.2.2.2.2.2.2.2.2.2.2.1), (by (iterate 13 (refine (cell_far (p := ⟨gb278, _, none⟩) NB237_278.out _).trans ?_)); exact hHeld.2.2.2.2.2.2.2.2.2.2.2.2.2.2.2.2.2.1), (by (iterate 13 (refine (cell_far (p := ⟨gb278, _, none⟩) NB237_278.out _).trans ?_)); exact hHeld.2.2.2.2.2.2.2.2.2.2.2.2.2.2.2.2.2.2.1), (by (iterate 13 (refine (cell_far (p := ⟨gb278, _, none⟩) NB237_278.out _).trans ?_)); exact hHeld.2.2.2.2.2.2.2.2.2.2.2.2.2.2.2.2.2.2.2.1), (by (iterate 13 (refine (cell_far (p := ⟨gb278, _, none⟩) NB237_278.out _).trans ?_)); exact hHeld.2.2.2.2.2.2.2.2.2.2.2.2.2.2.2.2.2.2.2.2.1), (by (iterate 13 (refine (cell_far (p := ⟨gb278, _, none⟩) NB237_278.out _).trans ?_)); exact hHeld.2.2.2.2.2.2.2.2.2.2.2.2.2.2.2.2.2.2.2.2.2.1), (by (iterate 13 (refine (cell_far (p := ⟨gb278, _, none⟩) NB237_278.out _).trans ?_)); exact hHeld.2.2.2.2.2.2.2.2.2.2.2.2.2.2.2.2.2.2.2.2.2.2.1), (by (iterate 13 (refine (cell_far (p := ⟨gb278, _, none⟩) NB237_278.out _).trans ?_)); exact hHeld.2.2.2.2.2.2.2.2.2.2.2.2.2.2.2.2.2.2.2.2.2.2.2.1), (by (iterate 13 (refine (cell_far (p := ⟨gb278, _, none⟩) NB237_278.out _).trans ?_)); exact hHeld.2.2.2.2.2.2.2.2.2.2.2.2.2.2.2.2.2.2.2.2.2.2.2.2.1), (by (iterate 13 (refine (cell_far (p := ⟨gb278, _, none⟩) NB237_278.out _).trans ?_)); exact hHeld.2.2.2.2.2.2.2.2.2.2.2.2.2.2.2.2.2.2.2.2.2.2.2.2.2.1), (by (iterate 13 (refine (cell_far (p := ⟨gb278, _, none⟩) NB237_278.out _).trans ?_)); exact hHeld.2.2.2.2.2.2.2.2.2.2.2.2.2.2.2.2.2.2.2.2.2.2.2.2.2.2.1), (by (iterate 13 (refine (cell_far (p := ⟨gb278, _, none⟩) NB238_278.out _).trans ?_)); exact hHeld.2.2.2.2.2.2.2.2.2.2.2.2.2.2.2.2.2.2.2.2.2.2.2.2.2.2.2.1), (by (iterate 13 (refine (cell_far (p := ⟨gb278, _, none⟩) NB238_278.out _).trans ?_)); exact hHeld.2.2.2.2.2.2.2.2.2.2.2.2.2.2.2.2.2.2.2.2.2.2.2.2.2.2.2.2.1), (by (iterate 13 (refine (cell_far (p := ⟨gb278, _, none⟩) NB238_278.out _).trans ?_)); exact hHeld.2.2.2.2.2.2.2.2.2.2.2.2.2.2.2.2.2.2.2.2.2.2.2.2.2.2.2.2.2.1), (by (iterate 13 (refine (cell_far (p := ⟨gb278, _, none⟩) NB238_278.out _).trans ?_)); exact hHeld.2.2.2.2.2.2.2.2.2.2.2.2.2.2.2.2.2.2.2.2.2.2.2.2.2.2.2.2.2.2.1), (by (iterate 13 (refine (cell_far (p := ⟨gb278, _, none⟩) NB238_278.out _).trans ?_)); exact hHeld.2.2.2.2.2.2.2.2.2.2.2.2.2.2.2.2.2.2.2.2.2.2.2.2.2.2.2.2.2.2.2.1), (by (iterate 13 (refine (cell_far (p := ⟨gb278, _, none⟩) NB238_278.out _).trans ?_)); exact hHeld.2.2.2.2.2.2.2.2.2.2.2.2.2.2.2.2.2.2.2.2.2.2.2.2.2.2.2.2.2.2.2.2.1), (by (iterate 13 (refine (cell_far (p := ⟨gb278, _, none⟩) NB238_278.out _).trans ?_)); exact hHeld.2.2.2.2.2.2.2.2.2.2.2.2.2.2.2.2.2.2.2.2.2.2.2.2.2.2.2.2.2.2.2.2.2.1), (by (iterate 13 (refine (cell_far (p := ⟨gb278, _, none⟩) NB238_278.out _).trans ?_)); exact hHeld.2.2.2.2.2.2.2.2.2.2.2.2.2.2.2.2.2.2.2.2.2.2.2.2.2.2.2.2.2.2.2.2.2.2)⟩ (fun hHeld => ?_)
                   clear hK K
                   refine pure_ (i := 10) (N := some 13) (v := ?_) (a' := ?_) #[true, true, true, true, true, true, true, true, true, true, true] rfl rfl (any_of HT_.out (by kernel_rfl)) (fun _ _ _ h => h) (Or.inl ⟨by rfl, ?_⟩) ?_ ?_
                   rotate_left
                   · intro w'
                     go_simp
                     with_reducible rfl
                   rotate_left
                   · simp only [Act.put, List.setIfInBounds_toArray, List.set_cons_zero, List.set_cons_succ, i64_w, i32_w]
                     rfl
                   refine done_ (done_of HT_.out (by kernel_rfl)) ?_
                   have hnb152 := NB278_237.out
                   have hnc152 := NB237_278.out
                   have hnb153 := NB278_238.out
                   have hnc153 := NB238_278.out
                   have hnb154 := NB278_252.out
                   have hnc154 := NB252_278.out
                   obtain ⟨hcz155_0, hcz155_1, hcz155_2, hcz155_3, hcz155_4, hcz155_5, hcz155_6, hcz155_7, hcz155_8, hcz155_9, hcz155_10, hcz155_11, hcz155_12⟩ := bc13 BK278.out; obtain ⟨hfz155_0, hfz155_1, hfz155_2, hfz155_3, hfz155_4, hfz155_5, hfz155_6, hfz155_7, hfz155_8, hfz155_9, hfz155_10, hfz155_11, hfz155_12⟩ := bf13 BK278.out
                   try go_wp2_with (first | (go_at_call 45; (with_reducible refine (call_Rested.calls t264 t265 t266 t267 t268 t269 t270 t271 t272 t273 t274 t275 t276 a2 a4 false _ A108.out).mono ?_); rintro e w156 ⟨rfl, hb⟩; have n0_ := Aside0.mk (blk_below (g := gb237) (o := .cells #[.int .i64 a0_0, .int .i64 a0_1, .int .i64 a0_2, .int .i64 a0_3, .int .i64 a0_4, .int .i64 a0_5, .int .i64 a0_6, .int .i64 a0_7, .int .i64 a0_8, .int .i64 a0_9, .int .i64 a0_10, .int .i64 a0_11, .int .i64 a0_12, .slice A0_13 l0_13.length c0_13] 72 (0, 0)) (by (iterate 13 ((with_reducible repeat (first | refine bN ?_ _ | refine bD ?_ | refine bA ?_ _)); refine blk_far ?_ NB237_278.out _)); (with_reducible repeat (first | refine bN ?_ _ | refine bD ?_ | refine bA ?_ _)); exact BK237.out) hb); have n1_ := Aside0.mk (blk_below (g := gb238) (o := .cells #[.int .i64 a1_0, .int .i64 a1_1, .bool a1_2, .int .i64 a1_3, .int .i64 a1_4, .int .i64 a1_5, .int .i64 a1_6, .int .i64 a1_7] 77 (0, 0)) (by (iterate 13 ((with_reducible repeat (first | refine bN ?_ _ | refine bD ?_ | refine bA ?_ _)); refine blk_far ?_ NB238_278.out _)); (with_reducible repeat (first | refine bN ?_ _ | refine bD ?_ | refine bA ?_ _)); exact BK238.out) hb); have n2_ := Aside0.mk (blk_below (g := gb252) (o := .cells #[.int .i64 t239, .int .i64 t240, .int .i64 t241, .int .i64 t242, .int .i64 t243, .int .i64 t244, .int .i64 t245, .int .i64 t246, .int .i64 t247, .bool t248, .int .i64 t249, .int .i64 t250, .int .i64 t251] 58 (0, 0)) (by (iterate 13 ((with_reducible repeat (first | refine bN ?_ _ | refine bD ?_ | refine bA ?_ _)); refine blk_far ?_ NB252_278.out _)); (with_reducible repeat (first | refine bN ?_ _ | refine bD ?_ | refine bA ?_ _)); exact BK252.out) hb); have n3_ := Aside0.mk (blk_below (g := gb278) (o := .cells #[.int .i64 t264, .int .i64 t265, .int .i64 t266, .int .i64 t267, .int .i64 t268, .int .i64 t269, .int .i64 t270, .int .i64 t271, .int .i64 t272, .bool t273, .int .i64 t274, .int .i64 t275, .int .i64 t276] 58 (0, 0)) (by (with_reducible repeat (first | refine bN ?_ _ | refine bD ?_ | refine bA ?_ _)); apply bq; (with_reducible repeat (first | refine bN ?_ _ | refine bD ?_ | refine bA ?_ _)); apply bq; (with_reducible repeat (first | refine bN ?_ _ | refine bD ?_ | refine bA ?_ _)); apply bq; (with_reducible repeat (first | refine bN ?_ _ | refine bD ?_ | refine bA ?_ _)); apply bq; (with_reducible repeat (first | refine bN ?_ _ | refine bD ?_ | refine bA ?_ _)); apply bq; (with_reducible repeat (first | refine bN ?_ _ | refine bD ?_ | refine bA ?_ _)); apply bq; (with_reducible repeat (first | refine bN ?_ _ | refine bD ?_ | refine bA ?_ _)); apply bq; (with_reducible repeat (first | refine bN ?_ _ | refine bD ?_ | refine bA ?_ _)); apply bq; (with_reducible repeat (first | refine bN ?_ _ | refine bD ?_ | refine bA ?_ _)); apply bq; (with_reducible repeat (first | refine bN ?_ _ | refine bD ?_ | refine bA ?_ _)); apply bq; (with_reducible repeat (first | refine bN ?_ _ | refine bD ?_ | refine bA ?_ _)); apply bq; (with_reducible repeat (first | refine bN ?_ _ | refine bD ?_ | refine bA ?_ _)); apply bq; (with_reducible repeat (first | refine bN ?_ _ | refine bD ?_ | refine bA ?_ _)); apply bq; (with_reducible repeat (first | refine bN ?_ _ | refine bD ?_ | refine bA ?_ _)); exact BK278.out; all_goals rfl) hb); have n4_ := Aside0.mk (below_step (by repeat (first | (with_reducible first | exact HB.out | apply pA | apply pN | apply pD | refine pS ?_ GE237.out | refine pS ?_ GE238.out | refine pS ?_ GE252.out | refine pS ?_ GE278.out) | exact HB.out)) hb); clear BK237; clear BK238; clear BK252; clear BK278; clear HB; have BK237 := n0_; have BK238 := n1_; have BK252 := n2_; have BK278 := n3_; have HB := n4_; clear n0_ n1_ n2_ n3_ n4_; (try clear hb); (try clear hb2); (try clear hk); (try clear hi)) | (go_at_call 39; (with_reducible refine (hourglasslaw21_awake.calls kj6  t280 _ A133.out HRT.out).mono ?_); rintro e w157 ⟨rfl, hb⟩; have n0_ := Aside0.mk (blk_below (g := gb237) (by (with_reducible repeat (first | refine bN ?_ _ | refine bD ?_ | refine bA ?_ _)); exact BK237.out) hb); have n1_ := Aside0.mk (blk_below (g := gb238) (by (with_reducible repeat (first | refine bN ?_ _ | refine bD ?_ | refine bA ?_ _)); exact BK238.out) hb); have n2_ := Aside0.mk (blk_below (g := gb252) (by (with_reducible repeat (first | refine bN ?_ _ | refine bD ?_ | refine bA ?_ _)); exact BK252.out) hb); have n3_ := Aside0.mk (blk_below (g := gb278) (by (with_reducible repeat (first | refine bN ?_ _ | refine bD ?_ | refine bA ?_ _)); exact BK278.out) hb); have n4_ := Aside0.mk (below_step (by repeat (first | (with_reducible first | exact HB.out | apply pA | apply pN | apply pD | refine pS ?_ GE237.out | refine pS ?_ GE238.out | refine pS ?_ GE252.out | refine pS ?_ GE278.out) | exact HB.out)) hb); clear BK237; clear BK238; clear BK252; clear BK278; clear HB; have BK237 := n0_; have BK238 := n1_; have BK252 := n2_; have BK278 := n3_; have HB := n4_; clear n0_ n1_ n2_ n3_ n4_; (try clear hb); (try clear hb2); (try clear hk); (try clear hi)))
                   go_ret
                   exact ⟨by first | rfl | (simp [errW_none, errW_some] <;> rfl) | (simp [*, errW_none, errW_some] <;> rfl), by repeat (first | (with_reducible first | exact HB.out | apply pA | apply pN | apply pD | refine pS ?_ GE237.out | refine pS ?_ GE238.out | refine pS ?_ GE252.out | refine pS ?_ GE278.out) | exact HB.out)⟩)
          · rw [if_neg c107] at H
            have c107b0 : (t270 == 3) = false := beq_eq_false_iff_ne.mpr c107
            have c107b1 : (t270 != 3) = true := bne_iff_ne.mpr c107
            exact absurd (Option.some.inj H) (by rw [HRT.out]; decide)
end Go.Proofs.Yteioecdfimphaaa.FCallWaits
