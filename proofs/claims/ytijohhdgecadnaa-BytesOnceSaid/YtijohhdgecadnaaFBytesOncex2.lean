/- The functions that BytesOnce reaches, as Lean functions, and what the Go code comes to: the same answers. No condition but that they answer. -/
import Derived.Test.YtijohhdgecadnaaFBytesOncex0
import Derived.Test.YtijohhdgecadnaaFBytesOncex1
namespace Go.Proofs.Ytijohhdgecadnaa.FBytesOnce
open Go.RowKit Go.Proofs.YtijohhdgecadnaaW.PrintWords Go.Proofs.YtijohhdgecadnaaW.PrintLast Go.Proofs.YtijohhdgecadnaaW.PrintMore
attribute [local go_sem] max2_int min2_int max_two min_two max_three min_three max_four min_four   -- for this text's walks alone
set_option linter.unusedVariables false
set_option linter.unusedSimpArgs false

/-! ### bytes_Text: function 17 -/
def bytes_Text.f (k : Nat) (a0 : ByteArray) : Option (ByteArray) := (bytes_Num.f k (a0.size : Int) 1).bind fun t120 => (if t120.toList = ([] : List UInt8) then (some (⟨#[]⟩ : ByteArray)) else (if t120.size + a0.size ≤ 9223372036854775807 then (some (t120 ++ a0)) else (none)))
theorem bytes_Text.mono : ∀ a0 k, LeO (bytes_Text.f k a0) (bytes_Text.f (k + 1) a0) := by
  intro a0 k
  unfold bytes_Text.f
  repeat' first
      | (with_reducible exact bytes_Num.mono _ _ _)
      | (with_reducible exact LeO.refl _)
      | (with_reducible exact LeO.none _)
      | (with_reducible refine LeO.ite ?_ ?_)
      | (with_reducible refine LeO.bind ?_ (fun _ => ?_))
      | exact bytes_Num.mono _ _ _
      | exact LeO.none _
      | refine LeO.ite ?_ ?_
      | refine LeO.bind ?_ (fun _ => ?_)
set_option maxHeartbeats 40000000 in
set_option maxRecDepth 100000 in
theorem bytes_Text.calls (k : Nat) (a0 : ByteArray) (r : ByteArray) (w : World) (h : bytes_Text.f k a0 = some r) :
    Calls Try.prog 17 #[.string a0] w fun e w' => e = .returned (.string r) ∧ Below w.heap.size w w' := by
  have HB := Aside0.mk (Below.refl w.heap.size w)
  have H : ((bytes_Num.f k (a0.size : Int) 1).bind fun t120 => (if t120.toList = ([] : List UInt8) then (some (⟨#[]⟩ : ByteArray)) else (if t120.size + a0.size ≤ 9223372036854775807 then (some (t120 ++ a0)) else (none)))) = some r := h
  clear h
  replace H := Option.bind_eq_some_iff.mp H
  obtain ⟨t120, A20, H⟩ := H
  replace H : (if t120.toList = ([] : List UInt8) then (some (⟨#[]⟩ : ByteArray)) else (if t120.size + a0.size ≤ 9223372036854775807 then (some (t120 ++ a0)) else (none))) = some r := H
  have A2 := Aside0.mk A20
  clear A20
  by_cases c3 : t120.toList = ([] : List UInt8)
  · rw [if_pos c3] at H
    have c3b0 : (t120.toList == ([] : List UInt8)) = true := beq_iff_eq.mpr c3
    have c3b1 : (t120.toList != ([] : List UInt8)) = false := bne_eq_false_iff_eq.mpr c3
    clear c3
    obtain rfl := Option.some.inj H
    go_enter Try.func17, Try.ntmps17
    go_wp2_with (first | ((with_reducible refine gate_callee (f := 15) rfl ?_); refine goesL_ (some 6) rfl rfl Try.func15 (by kernel_rfl) rfl #[.int .i64 (a0.size : Int), .int .i64 1] rfl (by (try simp only [List.map_toArray, List.map_cons, List.map_nil]); first | done | rfl | (simp only [List.length_drop, List.length_take]; rfl)) ?_; (with_reducible refine (bytes_Num.calls k (a0.size : Int) 1 t120 _ A2.out).mono ?_); rintro e w4 ⟨rfl, hb⟩; refine ⟨_, rfl, ?_⟩; have n0_ := Aside0.mk (below_step (by repeat (first | (with_reducible first | exact HB.out | apply below_alloc | apply pw_below_drewN | apply below_drew1) | exact HB.out)) hb); clear HB; have HB := n0_; clear n0_; (try clear hb); (try clear hb2); (try clear hk); (try clear hi)))
    go_ret
    exact ⟨by first | rfl | (simp [errW_none, errW_some] <;> rfl) | (simp [*, errW_none, errW_some] <;> rfl), by repeat (first | (with_reducible first | exact HB.out | apply below_alloc | apply pw_below_drewN | apply below_drew1) | exact HB.out)⟩
  · rw [if_neg c3] at H
    have c3b0 : (t120.toList == ([] : List UInt8)) = false := beq_eq_false_iff_ne.mpr c3
    have c3b1 : (t120.toList != ([] : List UInt8)) = true := bne_iff_ne.mpr c3
    by_cases c5 : t120.size + a0.size ≤ 9223372036854775807
    · rw [if_pos c5] at H
      have c5b0 := eq_true c5
      have c5b1 : decide (t120.size + a0.size ≤ 9223372036854775807) = true := decide_eq_true c5
      try have c5b2 : (9223372036854775807 < t120.size + a0.size) = False := eq_false (Nat.not_lt.2 c5)
      obtain rfl := Option.some.inj H
      go_enter Try.func17, Try.ntmps17
      go_wp2_with (first | ((with_reducible refine gate_callee (f := 15) rfl ?_); refine goesL_ (some 6) rfl rfl Try.func15 (by kernel_rfl) rfl #[.int .i64 (a0.size : Int), .int .i64 1] rfl (by (try simp only [List.map_toArray, List.map_cons, List.map_nil]); first | done | rfl | (simp only [List.length_drop, List.length_take]; rfl)) ?_; (with_reducible refine (bytes_Num.calls k (a0.size : Int) 1 t120 _ A2.out).mono ?_); rintro e w6 ⟨rfl, hb⟩; refine ⟨_, rfl, ?_⟩; have n0_ := Aside0.mk (below_step (by repeat (first | (with_reducible first | exact HB.out | apply below_alloc | apply pw_below_drewN | apply below_drew1) | exact HB.out)) hb); clear HB; have HB := n0_; clear n0_; (try clear hb); (try clear hb2); (try clear hk); (try clear hi)))
      go_ret
      exact ⟨by first | rfl | (simp [errW_none, errW_some] <;> rfl) | (simp [*, errW_none, errW_some] <;> rfl), by repeat (first | (with_reducible first | exact HB.out | apply below_alloc | apply pw_below_drewN | apply below_drew1) | exact HB.out)⟩
    · rw [if_neg c5] at H
      exact absurd H (by simp)

/-! ### bytes_Reader_Left: function 22 -/
def bytes_Reader_Left.f (s0_0 : ByteArray) (s0_1 : Int) : Option (Int × ByteArray × Int) := if s0_1 = 0 then (some ((s0_0.size : Int), s0_0, s0_1)) else (some (0, s0_0, s0_1))
set_option maxHeartbeats 40000000 in
set_option maxRecDepth 100000 in
theorem bytes_Reader_Left.calls (g : Nat) (s0_0 : ByteArray) (s0_1 : Int) (r1 : Int) (r2 : ByteArray) (r3 : Int) (w0 w : World) (hI : IsS81 w0 w g s0_0 s0_1) (hB : Below w0.heap.size w0 w) (h : bytes_Reader_Left.f s0_0 s0_1 = some (r1, r2, r3)) :
    Calls Try.prog 22 #[.pointer (some ⟨g, 0, none⟩)] w fun e w' => e = .returned (.int .i64 r1) ∧ IsS81 w0 w' g r2 r3 ∧ Below w0.heap.size w0 w' ∧ KeepBut w w' g none := by
  have HI0 := Aside0.mk hI
  have HK := Aside0.mk (KeepBut.refl w g none)
  have HL := Aside0.mk hB.size
  clear hI
  have HW0 := Aside0.mk hB.size
  have HB := Aside0.mk hB
  clear hB
  have H : (if s0_1 = 0 then (some ((s0_0.size : Int), s0_0, s0_1)) else (some (0, s0_0, s0_1))) = some (r1, r2, r3) := h
  clear h
  by_cases c2 : s0_1 = 0
  · rw [if_pos c2] at H
    have c2b0 : (s0_1 == 0) = true := beq_iff_eq.mpr c2
    have c2b1 : (s0_1 != 0) = false := bne_eq_false_iff_eq.mpr c2
    clear c2
    simp only [Option.some.injEq, Prod.mk.injEq] at H
    obtain ⟨rfl, rfl, rfl⟩ := H
    obtain ⟨HGz3, hgz3⟩ := HI0.out
    have hcz3_0 := cellS81_0 HGz3
    have hcz3_1 := cellS81_1 HGz3
    have hfz3_0 := blk_frozen HGz3 0
    have hfz3_1 := blk_frozen HGz3 1
    clear HGz3 hgz3
    go_enter Try.func22, Try.ntmps22
    go_wp2
    go_ret
    exact ⟨by first | rfl | (simp [errW_none, errW_some] <;> rfl) | (simp [*, errW_none, errW_some] <;> rfl), by repeat (first | (with_reducible first | exact HI0.out | apply IsS81.alloc | apply IsS81.drewN | apply IsS81.drew | apply IsS81.set_0 | apply IsS81.set_1) | exact HI0.out), by repeat (first | (with_reducible first | exact HB.out | apply below_alloc | apply pw_below_drewN | apply below_drew1 | refine below_set ?_ (IsS81.ge HI0.out)) | exact HB.out), by repeat (first | (with_reducible first | exact HK.out | apply KeepBut.set_ | apply keep_drewN | apply keep_drew | apply keep_alloc) | exact HK.out)⟩
  · rw [if_neg c2] at H
    have c2b0 : (s0_1 == 0) = false := beq_eq_false_iff_ne.mpr c2
    have c2b1 : (s0_1 != 0) = true := bne_iff_ne.mpr c2
    simp only [Option.some.injEq, Prod.mk.injEq] at H
    obtain ⟨rfl, rfl, rfl⟩ := H
    obtain ⟨HGz4, hgz4⟩ := HI0.out
    have hcz4_0 := cellS81_0 HGz4
    have hcz4_1 := cellS81_1 HGz4
    have hfz4_0 := blk_frozen HGz4 0
    have hfz4_1 := blk_frozen HGz4 1
    clear HGz4 hgz4
    go_enter Try.func22, Try.ntmps22
    go_wp2
    go_ret
    exact ⟨by first | rfl | (simp [errW_none, errW_some] <;> rfl) | (simp [*, errW_none, errW_some] <;> rfl), by repeat (first | (with_reducible first | exact HI0.out | apply IsS81.alloc | apply IsS81.drewN | apply IsS81.drew | apply IsS81.set_0 | apply IsS81.set_1) | exact HI0.out), by repeat (first | (with_reducible first | exact HB.out | apply below_alloc | apply pw_below_drewN | apply below_drew1 | refine below_set ?_ (IsS81.ge HI0.out)) | exact HB.out), by repeat (first | (with_reducible first | exact HK.out | apply KeepBut.set_ | apply keep_drewN | apply keep_drew | apply keep_alloc) | exact HK.out)⟩

/-! ### bytes_Reader_Left_nil: function 22 (of nil) -/
def bytes_Reader_Left_nil.f  : Option (Int) := some (0)
theorem bytes_Reader_Left_nil.calls  (r : Int) (w : World) (h : bytes_Reader_Left_nil.f  = some r) : Calls Try.prog 22 #[.pointer none] w fun e w' => e = .returned (.int .i64 r) ∧ Below w.heap.size w w' := by
  obtain rfl := Option.some.inj h
  have HB := Aside0.mk (Below.refl w.heap.size w)
  clear h
  go_enter Try.func22, Try.ntmps22
  go_wp2
  all_goals
    go_ret
    exact ⟨rfl, by repeat (first | (with_reducible first | exact HB.out | apply below_alloc | apply pw_below_drewN | apply below_drew1) | exact HB.out)⟩

/-! ### bytes_Reader_End: function 24 -/
def bytes_Reader_End.f (s0_0 : ByteArray) (s0_1 : Int) : Option (Int × ByteArray × Int) := (bytes_Reader_Left.f s0_0 s0_1).bind fun bt121 => (if bt121.1 > 0 then (some (5, bt121.2.1, 5)) else (some (bt121.2.2, bt121.2.1, bt121.2.2)))
set_option maxHeartbeats 40000000 in
set_option maxRecDepth 100000 in
theorem bytes_Reader_End.calls (g : Nat) (s0_0 : ByteArray) (s0_1 : Int) (r1 : Int) (r2 : ByteArray) (r3 : Int) (w0 w : World) (hI : IsS81 w0 w g s0_0 s0_1) (hB : Below w0.heap.size w0 w) (h : bytes_Reader_End.f s0_0 s0_1 = some (r1, r2, r3)) :
    Calls Try.prog 24 #[.pointer (some ⟨g, 0, none⟩)] w fun e w' => e = .returned (.int .i64 r1) ∧ IsS81 w0 w' g r2 r3 ∧ Below w0.heap.size w0 w' ∧ KeepBut w w' g none := by
  have HI0 := Aside0.mk hI
  have HK := Aside0.mk (KeepBut.refl w g none)
  have HL := Aside0.mk hB.size
  clear hI
  have HW0 := Aside0.mk hB.size
  have HB := Aside0.mk hB
  clear hB
  have H : ((bytes_Reader_Left.f s0_0 s0_1).bind fun bt121 => (if bt121.1 > 0 then (some (5, bt121.2.1, 5)) else (some (bt121.2.2, bt121.2.1, bt121.2.2)))) = some (r1, r2, r3) := h
  clear h
  replace H := Option.bind_eq_some_iff.mp H
  obtain ⟨⟨t121, t122, t123⟩, A20, H⟩ := H
  replace H : (if t121 > 0 then (some (5, t122, 5)) else (some (t123, t122, t123))) = some (r1, r2, r3) := H
  have A2 := Aside0.mk A20
  clear A20
  by_cases c3 : t121 > 0
  · rw [if_pos c3] at H
    have c3b0 : decide (0 < t121) = true := decide_eq_true c3
    clear c3
    simp only [Option.some.injEq, Prod.mk.injEq] at H
    obtain ⟨rfl, rfl, rfl⟩ := H
    go_enter Try.func24, Try.ntmps24
    go_wp2_with (first | ((with_reducible refine gate_callee (f := 22) rfl ?_); refine goesL_ (some 6) rfl rfl Try.func22 (by kernel_rfl) rfl #[.pointer (some ⟨g, 0, none⟩)] rfl (by (try simp only [List.map_toArray, List.map_cons, List.map_nil]); first | done | rfl | (simp only [List.length_drop, List.length_take]; rfl)) ?_; (with_reducible refine (bytes_Reader_Left.calls g s0_0 s0_1 t121 t122 t123 w0 _ ?side1 ?side2 A2.out).mono ?_); (case side1 => repeat (first | (with_reducible first | exact HI0.out | apply IsS81.alloc | apply IsS81.drewN | apply IsS81.drew | apply IsS81.set_0 | apply IsS81.set_1) | exact HI0.out)); (case side2 => repeat (first | (with_reducible first | exact HB.out | apply below_alloc | apply pw_below_drewN | apply below_drew1 | refine below_set ?_ (IsS81.ge HI0.out)) | exact HB.out)); rintro e w4 ⟨rfl, hi, hb, hk⟩; refine ⟨_, rfl, ?_⟩; have n0_ := Aside0.mk (KeepBut.trans (by repeat (first | (with_reducible first | exact HK.out | apply KeepBut.set_ | apply keep_drewN | apply keep_drew | apply keep_alloc) | exact HK.out)) hk (.inl rfl)); have n1_ := Aside0.mk (hb); have n2_ := Aside0.mk (hi); clear HK; clear HB; clear HI0; have HK := n0_; have HB := n1_; have HI0 := n2_; clear n0_ n1_ n2_; (try clear hb); (try clear hb2); (try clear hk); (try clear hi); obtain ⟨HGz5, hgz5⟩ := HI0.out; have hcz5_0 := cellS81_0 HGz5; have hcz5_1 := cellS81_1 HGz5; have hfz5_0 := blk_frozen HGz5 0; have hfz5_1 := blk_frozen HGz5 1; clear HGz5 hgz5))
    go_ret
    exact ⟨by first | rfl | (simp [errW_none, errW_some] <;> rfl) | (simp [*, errW_none, errW_some] <;> rfl), by repeat (first | (with_reducible first | exact HI0.out | apply IsS81.alloc | apply IsS81.drewN | apply IsS81.drew | apply IsS81.set_0 | apply IsS81.set_1) | exact HI0.out), by repeat (first | (with_reducible first | exact HB.out | apply below_alloc | apply pw_below_drewN | apply below_drew1 | refine below_set ?_ (IsS81.ge HI0.out)) | exact HB.out), by repeat (first | (with_reducible first | exact HK.out | apply KeepBut.set_ | apply keep_drewN | apply keep_drew | apply keep_alloc) | exact HK.out)⟩
  · rw [if_neg c3] at H
    have c3b0 : decide (0 < t121) = false := decide_eq_false c3
    clear c3
    simp only [Option.some.injEq, Prod.mk.injEq] at H
    obtain ⟨rfl, rfl, rfl⟩ := H
    go_enter Try.func24, Try.ntmps24
    go_wp2_with (first | ((with_reducible refine gate_callee (f := 22) rfl ?_); refine goesL_ (some 6) rfl rfl Try.func22 (by kernel_rfl) rfl #[.pointer (some ⟨g, 0, none⟩)] rfl (by (try simp only [List.map_toArray, List.map_cons, List.map_nil]); first | done | rfl | (simp only [List.length_drop, List.length_take]; rfl)) ?_; (with_reducible refine (bytes_Reader_Left.calls g s0_0 s0_1 t121 t122 t123 w0 _ ?side1 ?side2 A2.out).mono ?_); (case side1 => repeat (first | (with_reducible first | exact HI0.out | apply IsS81.alloc | apply IsS81.drewN | apply IsS81.drew | apply IsS81.set_0 | apply IsS81.set_1) | exact HI0.out)); (case side2 => repeat (first | (with_reducible first | exact HB.out | apply below_alloc | apply pw_below_drewN | apply below_drew1 | refine below_set ?_ (IsS81.ge HI0.out)) | exact HB.out)); rintro e w6 ⟨rfl, hi, hb, hk⟩; refine ⟨_, rfl, ?_⟩; have n0_ := Aside0.mk (KeepBut.trans (by repeat (first | (with_reducible first | exact HK.out | apply KeepBut.set_ | apply keep_drewN | apply keep_drew | apply keep_alloc) | exact HK.out)) hk (.inl rfl)); have n1_ := Aside0.mk (hb); have n2_ := Aside0.mk (hi); clear HK; clear HB; clear HI0; have HK := n0_; have HB := n1_; have HI0 := n2_; clear n0_ n1_ n2_; (try clear hb); (try clear hb2); (try clear hk); (try clear hi); obtain ⟨HGz7, hgz7⟩ := HI0.out; have hcz7_0 := cellS81_0 HGz7; have hcz7_1 := cellS81_1 HGz7; have hfz7_0 := blk_frozen HGz7 0; have hfz7_1 := blk_frozen HGz7 1; clear HGz7 hgz7))
    go_ret
    exact ⟨by first | rfl | (simp [errW_none, errW_some] <;> rfl) | (simp [*, errW_none, errW_some] <;> rfl), by repeat (first | (with_reducible first | exact HI0.out | apply IsS81.alloc | apply IsS81.drewN | apply IsS81.drew | apply IsS81.set_0 | apply IsS81.set_1) | exact HI0.out), by repeat (first | (with_reducible first | exact HB.out | apply below_alloc | apply pw_below_drewN | apply below_drew1 | refine below_set ?_ (IsS81.ge HI0.out)) | exact HB.out), by repeat (first | (with_reducible first | exact HK.out | apply KeepBut.set_ | apply keep_drewN | apply keep_drew | apply keep_alloc) | exact HK.out)⟩

/-! ### bytes_Reader_End_nil: function 24 (of nil) -/
def bytes_Reader_End_nil.f  : Option (Int) := some (1)
theorem bytes_Reader_End_nil.calls  (r : Int) (w : World) (h : bytes_Reader_End_nil.f  = some r) : Calls Try.prog 24 #[.pointer none] w fun e w' => e = .returned (.int .i64 r) ∧ Below w.heap.size w w' := by
  obtain rfl := Option.some.inj h
  have HB := Aside0.mk (Below.refl w.heap.size w)
  clear h
  go_enter Try.func24, Try.ntmps24
  go_wp2
  all_goals
    go_ret
    exact ⟨rfl, by repeat (first | (with_reducible first | exact HB.out | apply below_alloc | apply pw_below_drewN | apply below_drew1) | exact HB.out)⟩

/-! ### bytes_Reader_Text: function 27 -/
def bytes_Reader_Text.f (k : Nat) (s0_0 : ByteArray) (s0_1 : Int) : Option (ByteArray × ByteArray × Int) := (bytes_Reader_Num.f k s0_0 s0_1 1).bind fun bt124 => ((bytes_Reader_take.f bt124.2.1 bt124.2.2 bt124.1).bind fun bt127 => (some (bt127.1, bt127.2.2.1, bt127.2.2.2)))
theorem bytes_Reader_Text.mono : ∀ a0 a1 k, LeO (bytes_Reader_Text.f k a0 a1) (bytes_Reader_Text.f (k + 1) a0 a1) := by
  intro a0 a1 k
  unfold bytes_Reader_Text.f
  repeat' first
      | (with_reducible exact bytes_Reader_Num.mono _ _ _ _)
      | (with_reducible exact LeO.refl _)
      | (with_reducible exact LeO.none _)
      | (with_reducible refine LeO.ite ?_ ?_)
      | (with_reducible refine LeO.bind ?_ (fun _ => ?_))
      | exact bytes_Reader_Num.mono _ _ _ _
      | exact LeO.none _
      | refine LeO.ite ?_ ?_
      | refine LeO.bind ?_ (fun _ => ?_)
set_option maxHeartbeats 40000000 in
set_option maxRecDepth 100000 in
theorem bytes_Reader_Text.calls (k : Nat) (g : Nat) (s0_0 : ByteArray) (s0_1 : Int) (r1 : ByteArray) (r2 : ByteArray) (r3 : Int) (w0 w : World) (hI : IsS81 w0 w g s0_0 s0_1) (hB : Below w0.heap.size w0 w) (h : bytes_Reader_Text.f k s0_0 s0_1 = some (r1, r2, r3)) :
    Calls Try.prog 27 #[.pointer (some ⟨g, 0, none⟩)] w fun e w' => e = .returned (.string r1) ∧ IsS81 w0 w' g r2 r3 ∧ Below w0.heap.size w0 w' ∧ KeepBut w w' g none := by
  have HI0 := Aside0.mk hI
  have HK := Aside0.mk (KeepBut.refl w g none)
  have HL := Aside0.mk hB.size
  clear hI
  have HW0 := Aside0.mk hB.size
  have HB := Aside0.mk hB
  clear hB
  have H : ((bytes_Reader_Num.f k s0_0 s0_1 1).bind fun bt124 => ((bytes_Reader_take.f bt124.2.1 bt124.2.2 bt124.1).bind fun bt127 => (some (bt127.1, bt127.2.2.1, bt127.2.2.2)))) = some (r1, r2, r3) := h
  clear h
  replace H := Option.bind_eq_some_iff.mp H
  obtain ⟨⟨t124, t125, t126⟩, A20, H⟩ := H
  replace H : ((bytes_Reader_take.f t125 t126 t124).bind fun bt127 => (some (bt127.1, bt127.2.2.1, bt127.2.2.2))) = some (r1, r2, r3) := H
  have A2 := Aside0.mk A20
  clear A20
  replace H := Option.bind_eq_some_iff.mp H
  obtain ⟨⟨t127, t128, t129, t130⟩, A30, H⟩ := H
  replace H : (some (t127, t129, t130)) = some (r1, r2, r3) := H
  have A3 := Aside0.mk A30
  clear A30
  simp only [Option.some.injEq, Prod.mk.injEq] at H
  obtain ⟨rfl, rfl, rfl⟩ := H
  go_enter Try.func27, Try.ntmps27
  go_wp2_with (first | ((with_reducible refine gate_callee (f := 26) rfl ?_); refine goesL_ (some 8) rfl rfl Try.func26 (by kernel_rfl) rfl #[.pointer (some ⟨g, 0, none⟩), .int .i64 1] rfl (by (try simp only [List.map_toArray, List.map_cons, List.map_nil]); first | done | rfl | (simp only [List.length_drop, List.length_take]; rfl)) ?_; (with_reducible refine (bytes_Reader_Num.calls k g s0_0 s0_1 1 t124 t125 t126 w0 _ ?side1 ?side2 A2.out).mono ?_); (case side1 => repeat (first | (with_reducible first | exact HI0.out | apply IsS81.alloc | apply IsS81.drewN | apply IsS81.drew | apply IsS81.set_0 | apply IsS81.set_1) | exact HI0.out)); (case side2 => repeat (first | (with_reducible first | exact HB.out | apply below_alloc | apply pw_below_drewN | apply below_drew1 | refine below_set ?_ (IsS81.ge HI0.out)) | exact HB.out)); rintro e w4 ⟨rfl, hi, hb, hk⟩; refine ⟨_, rfl, ?_⟩; have n0_ := Aside0.mk (KeepBut.trans (by repeat (first | (with_reducible first | exact HK.out | apply KeepBut.set_ | apply keep_drewN | apply keep_drew | apply keep_alloc) | exact HK.out)) hk (.inl rfl)); have n1_ := Aside0.mk (hb); have n2_ := Aside0.mk (hi); clear HK; clear HB; clear HI0; have HK := n0_; have HB := n1_; have HI0 := n2_; clear n0_ n1_ n2_; (try clear hb); (try clear hb2); (try clear hk); (try clear hi)) | ((with_reducible refine gate_callee (f := 54) rfl ?_); refine goesL_ (some 9) rfl rfl Try.func54 (by kernel_rfl) rfl #[.pointer (some ⟨g, 0, none⟩), .int .i64 t124] rfl (by (try simp only [List.map_toArray, List.map_cons, List.map_nil]); first | done | rfl | (simp only [List.length_drop, List.length_take]; rfl)) ?_; (with_reducible refine (bytes_Reader_take.calls g t125 t126 t124 t127 t128 t129 t130 w0 _ ?side1 ?side2 A3.out).mono ?_); (case side1 => repeat (first | (with_reducible first | exact HI0.out | apply IsS81.alloc | apply IsS81.drewN | apply IsS81.drew | apply IsS81.set_0 | apply IsS81.set_1) | exact HI0.out)); (case side2 => repeat (first | (with_reducible first | exact HB.out | apply below_alloc | apply pw_below_drewN | apply below_drew1 | refine below_set ?_ (IsS81.ge HI0.out)) | exact HB.out)); rintro e w5 ⟨rfl, hi, hb, hk⟩; refine ⟨_, rfl, ?_⟩; have n0_ := Aside0.mk (KeepBut.trans (by repeat (first | (with_reducible first | exact HK.out | apply KeepBut.set_ | apply keep_drewN | apply keep_drew | apply keep_alloc) | exact HK.out)) hk (.inl rfl)); have n1_ := Aside0.mk (hb); have n2_ := Aside0.mk (hi); clear HK; clear HB; clear HI0; have HK := n0_; have HB := n1_; have HI0 := n2_; clear n0_ n1_ n2_; (try clear hb); (try clear hb2); (try clear hk); (try clear hi)))
  go_ret
  exact ⟨by first | rfl | (simp [errW_none, errW_some] <;> rfl) | (simp [*, errW_none, errW_some] <;> rfl), by repeat (first | (with_reducible first | exact HI0.out | apply IsS81.alloc | apply IsS81.drewN | apply IsS81.drew | apply IsS81.set_0 | apply IsS81.set_1) | exact HI0.out), by repeat (first | (with_reducible first | exact HB.out | apply below_alloc | apply pw_below_drewN | apply below_drew1 | refine below_set ?_ (IsS81.ge HI0.out)) | exact HB.out), by repeat (first | (with_reducible first | exact HK.out | apply KeepBut.set_ | apply keep_drewN | apply keep_drew | apply keep_alloc) | exact HK.out)⟩

/-! ### bytes_Reader_Text_nil: function 27 (of nil) -/
def bytes_Reader_Text_nil.f  : Option (ByteArray) := some (⟨#[]⟩)
theorem bytes_Reader_Text_nil.calls  (r : ByteArray) (w : World) (h : bytes_Reader_Text_nil.f  = some r) : Calls Try.prog 27 #[.pointer none] w fun e w' => e = .returned (.string r) ∧ Below w.heap.size w w' := by
  obtain rfl := Option.some.inj h
  have HB := Aside0.mk (Below.refl w.heap.size w)
  clear h
  go_enter Try.func27, Try.ntmps27
  go_wp2_with (first | (go_at_call 26; refine (bytes_Reader_Num_nil.calls 1 _ _ rfl).mono ?_; rintro e w1 ⟨rfl, hb⟩; have n0_ := Aside0.mk (below_step (by repeat (first | (with_reducible first | exact HB.out | apply below_alloc | apply pw_below_drewN | apply below_drew1) | exact HB.out)) hb); clear HB hb; have HB := n0_; clear n0_) | (go_at_call 54; refine (bytes_Reader_take_nil.calls _ _ _ _ rfl).mono ?_; rintro e w1 ⟨rfl, hb⟩; have n0_ := Aside0.mk (below_step (by repeat (first | (with_reducible first | exact HB.out | apply below_alloc | apply pw_below_drewN | apply below_drew1) | exact HB.out)) hb); clear HB hb; have HB := n0_; clear n0_))
  all_goals
    go_ret
    exact ⟨rfl, by repeat (first | (with_reducible first | exact HB.out | apply below_alloc | apply pw_below_drewN | apply below_drew1) | exact HB.out)⟩

/-! ### bytes_Reader_Flag: function 28 -/
def bytes_Reader_Flag.f (k : Nat) (s0_0 : ByteArray) (s0_1 : Int) : Option (Bool × ByteArray × Int) := (bytes_Reader_Num.f k s0_0 s0_1 1).bind fun bt131 => (if bt131.1 > 1 then ((bytes_Reader_Fail.f bt131.2.1 bt131.2.2 5).bind fun bt134 => (some ((bt131.1 == 1), bt134.1, bt134.2))) else (some ((bt131.1 == 1), bt131.2.1, bt131.2.2)))
theorem bytes_Reader_Flag.mono : ∀ a0 a1 k, LeO (bytes_Reader_Flag.f k a0 a1) (bytes_Reader_Flag.f (k + 1) a0 a1) := by
  intro a0 a1 k
  unfold bytes_Reader_Flag.f
  repeat' first
      | (with_reducible exact bytes_Reader_Num.mono _ _ _ _)
      | (with_reducible exact LeO.refl _)
      | (with_reducible exact LeO.none _)
      | (with_reducible refine LeO.ite ?_ ?_)
      | (with_reducible refine LeO.bind ?_ (fun _ => ?_))
      | exact bytes_Reader_Num.mono _ _ _ _
      | exact LeO.none _
      | refine LeO.ite ?_ ?_
      | refine LeO.bind ?_ (fun _ => ?_)
set_option maxHeartbeats 40000000 in
set_option maxRecDepth 100000 in
theorem bytes_Reader_Flag.calls (k : Nat) (g : Nat) (s0_0 : ByteArray) (s0_1 : Int) (r1 : Bool) (r2 : ByteArray) (r3 : Int) (w0 w : World) (hI : IsS81 w0 w g s0_0 s0_1) (hB : Below w0.heap.size w0 w) (h : bytes_Reader_Flag.f k s0_0 s0_1 = some (r1, r2, r3)) :
    Calls Try.prog 28 #[.pointer (some ⟨g, 0, none⟩)] w fun e w' => e = .returned (.bool r1) ∧ IsS81 w0 w' g r2 r3 ∧ Below w0.heap.size w0 w' ∧ KeepBut w w' g none := by
  have HI0 := Aside0.mk hI
  have HK := Aside0.mk (KeepBut.refl w g none)
  have HL := Aside0.mk hB.size
  clear hI
  have HW0 := Aside0.mk hB.size
  have HB := Aside0.mk hB
  clear hB
  have H : ((bytes_Reader_Num.f k s0_0 s0_1 1).bind fun bt131 => (if bt131.1 > 1 then ((bytes_Reader_Fail.f bt131.2.1 bt131.2.2 5).bind fun bt134 => (some ((bt131.1 == 1), bt134.1, bt134.2))) else (some ((bt131.1 == 1), bt131.2.1, bt131.2.2)))) = some (r1, r2, r3) := h
  clear h
  replace H := Option.bind_eq_some_iff.mp H
  obtain ⟨⟨t131, t132, t133⟩, A20, H⟩ := H
  replace H : (if t131 > 1 then ((bytes_Reader_Fail.f t132 t133 5).bind fun bt134 => (some ((t131 == 1), bt134.1, bt134.2))) else (some ((t131 == 1), t132, t133))) = some (r1, r2, r3) := H
  have A2 := Aside0.mk A20
  clear A20
  by_cases c3 : t131 > 1
  · rw [if_pos c3] at H
    have c3b0 : decide (1 < t131) = true := decide_eq_true c3
    clear c3
    replace H := Option.bind_eq_some_iff.mp H
    obtain ⟨⟨t134, t135⟩, A40, H⟩ := H
    replace H : (some ((t131 == 1), t134, t135)) = some (r1, r2, r3) := H
    have A4 := Aside0.mk A40
    clear A40
    simp only [Option.some.injEq, Prod.mk.injEq] at H
    obtain ⟨rfl, rfl, rfl⟩ := H
    go_enter Try.func28, Try.ntmps28
    go_wp2_with (first | ((with_reducible refine gate_callee (f := 26) rfl ?_); refine goesL_ (some 5) rfl rfl Try.func26 (by kernel_rfl) rfl #[.pointer (some ⟨g, 0, none⟩), .int .i64 1] rfl (by (try simp only [List.map_toArray, List.map_cons, List.map_nil]); first | done | rfl | (simp only [List.length_drop, List.length_take]; rfl)) ?_; (with_reducible refine (bytes_Reader_Num.calls k g s0_0 s0_1 1 t131 t132 t133 w0 _ ?side1 ?side2 A2.out).mono ?_); (case side1 => repeat (first | (with_reducible first | exact HI0.out | apply IsS81.alloc | apply IsS81.drewN | apply IsS81.drew | apply IsS81.set_0 | apply IsS81.set_1) | exact HI0.out)); (case side2 => repeat (first | (with_reducible first | exact HB.out | apply below_alloc | apply pw_below_drewN | apply below_drew1 | refine below_set ?_ (IsS81.ge HI0.out)) | exact HB.out)); rintro e w5 ⟨rfl, hi, hb, hk⟩; refine ⟨_, rfl, ?_⟩; have n0_ := Aside0.mk (KeepBut.trans (by repeat (first | (with_reducible first | exact HK.out | apply KeepBut.set_ | apply keep_drewN | apply keep_drew | apply keep_alloc) | exact HK.out)) hk (.inl rfl)); have n1_ := Aside0.mk (hb); have n2_ := Aside0.mk (hi); clear HK; clear HB; clear HI0; have HK := n0_; have HB := n1_; have HI0 := n2_; clear n0_ n1_ n2_; (try clear hb); (try clear hb2); (try clear hk); (try clear hi)) | ((with_reducible refine gate_callee (f := 29) rfl ?_); refine goesL_ (some 9) rfl rfl Try.func29 (by kernel_rfl) rfl #[.pointer (some ⟨g, 0, none⟩), .int .i64 5] rfl (by (try simp only [List.map_toArray, List.map_cons, List.map_nil]); first | done | rfl | (simp only [List.length_drop, List.length_take]; rfl)) ?_; (with_reducible refine (bytes_Reader_Fail.calls g t132 t133 5 t134 t135 w0 _ ?side1 ?side2 A4.out).mono ?_); (case side1 => repeat (first | (with_reducible first | exact HI0.out | apply IsS81.alloc | apply IsS81.drewN | apply IsS81.drew | apply IsS81.set_0 | apply IsS81.set_1) | exact HI0.out)); (case side2 => repeat (first | (with_reducible first | exact HB.out | apply below_alloc | apply pw_below_drewN | apply below_drew1 | refine below_set ?_ (IsS81.ge HI0.out)) | exact HB.out)); rintro e w6 ⟨rfl, hi, hb, hk⟩; refine ⟨_, rfl, ?_⟩; have n0_ := Aside0.mk (KeepBut.trans (by repeat (first | (with_reducible first | exact HK.out | apply KeepBut.set_ | apply keep_drewN | apply keep_drew | apply keep_alloc) | exact HK.out)) hk (.inl rfl)); have n1_ := Aside0.mk (hb); have n2_ := Aside0.mk (hi); clear HK; clear HB; clear HI0; have HK := n0_; have HB := n1_; have HI0 := n2_; clear n0_ n1_ n2_; (try clear hb); (try clear hb2); (try clear hk); (try clear hi)))
    go_ret
    exact ⟨by first | rfl | (simp [errW_none, errW_some] <;> rfl) | (simp [*, errW_none, errW_some] <;> rfl), by repeat (first | (with_reducible first | exact HI0.out | apply IsS81.alloc | apply IsS81.drewN | apply IsS81.drew | apply IsS81.set_0 | apply IsS81.set_1) | exact HI0.out), by repeat (first | (with_reducible first | exact HB.out | apply below_alloc | apply pw_below_drewN | apply below_drew1 | refine below_set ?_ (IsS81.ge HI0.out)) | exact HB.out), by repeat (first | (with_reducible first | exact HK.out | apply KeepBut.set_ | apply keep_drewN | apply keep_drew | apply keep_alloc) | exact HK.out)⟩
  · rw [if_neg c3] at H
    have c3b0 : decide (1 < t131) = false := decide_eq_false c3
    clear c3
    simp only [Option.some.injEq, Prod.mk.injEq] at H
    obtain ⟨rfl, rfl, rfl⟩ := H
    go_enter Try.func28, Try.ntmps28
    go_wp2_with (first | ((with_reducible refine gate_callee (f := 26) rfl ?_); refine goesL_ (some 5) rfl rfl Try.func26 (by kernel_rfl) rfl #[.pointer (some ⟨g, 0, none⟩), .int .i64 1] rfl (by (try simp only [List.map_toArray, List.map_cons, List.map_nil]); first | done | rfl | (simp only [List.length_drop, List.length_take]; rfl)) ?_; (with_reducible refine (bytes_Reader_Num.calls k g s0_0 s0_1 1 t131 t132 t133 w0 _ ?side1 ?side2 A2.out).mono ?_); (case side1 => repeat (first | (with_reducible first | exact HI0.out | apply IsS81.alloc | apply IsS81.drewN | apply IsS81.drew | apply IsS81.set_0 | apply IsS81.set_1) | exact HI0.out)); (case side2 => repeat (first | (with_reducible first | exact HB.out | apply below_alloc | apply pw_below_drewN | apply below_drew1 | refine below_set ?_ (IsS81.ge HI0.out)) | exact HB.out)); rintro e w7 ⟨rfl, hi, hb, hk⟩; refine ⟨_, rfl, ?_⟩; have n0_ := Aside0.mk (KeepBut.trans (by repeat (first | (with_reducible first | exact HK.out | apply KeepBut.set_ | apply keep_drewN | apply keep_drew | apply keep_alloc) | exact HK.out)) hk (.inl rfl)); have n1_ := Aside0.mk (hb); have n2_ := Aside0.mk (hi); clear HK; clear HB; clear HI0; have HK := n0_; have HB := n1_; have HI0 := n2_; clear n0_ n1_ n2_; (try clear hb); (try clear hb2); (try clear hk); (try clear hi)))
    go_ret
    exact ⟨by first | rfl | (simp [errW_none, errW_some] <;> rfl) | (simp [*, errW_none, errW_some] <;> rfl), by repeat (first | (with_reducible first | exact HI0.out | apply IsS81.alloc | apply IsS81.drewN | apply IsS81.drew | apply IsS81.set_0 | apply IsS81.set_1) | exact HI0.out), by repeat (first | (with_reducible first | exact HB.out | apply below_alloc | apply pw_below_drewN | apply below_drew1 | refine below_set ?_ (IsS81.ge HI0.out)) | exact HB.out), by repeat (first | (with_reducible first | exact HK.out | apply KeepBut.set_ | apply keep_drewN | apply keep_drew | apply keep_alloc) | exact HK.out)⟩

/-! ### bytes_Reader_Flag_nil: function 28 (of nil) -/
def bytes_Reader_Flag_nil.f  : Option (Bool) := some (false)
theorem bytes_Reader_Flag_nil.calls  (r : Bool) (w : World) (h : bytes_Reader_Flag_nil.f  = some r) : Calls Try.prog 28 #[.pointer none] w fun e w' => e = .returned (.bool r) ∧ Below w.heap.size w w' := by
  obtain rfl := Option.some.inj h
  have HB := Aside0.mk (Below.refl w.heap.size w)
  clear h
  go_enter Try.func28, Try.ntmps28
  go_wp2_with (first | (go_at_call 26; refine (bytes_Reader_Num_nil.calls 1 _ _ rfl).mono ?_; rintro e w1 ⟨rfl, hb⟩; have n0_ := Aside0.mk (below_step (by repeat (first | (with_reducible first | exact HB.out | apply below_alloc | apply pw_below_drewN | apply below_drew1) | exact HB.out)) hb); clear HB hb; have HB := n0_; clear n0_))
  all_goals
    go_ret
    exact ⟨rfl, by repeat (first | (with_reducible first | exact HB.out | apply below_alloc | apply pw_below_drewN | apply below_drew1) | exact HB.out)⟩

/-! ### hourglasslaw04_BytesOnce: function 6 -/
mutual
def hourglasslaw04_BytesOnce.j0 : Nat → ByteArray → Int → Int → ByteArray → Bool → Int → Bool → Option (Bool)
  | 0, _, _, _, _, _, _, _ => none
  | k + 1, x0, x1, x6, x7, x8, x9, x39 => if x39 = true then ((bytes_Num.f k x6 x1).bind fun t155 => ((bytes_Text.f k x7).bind fun t156 => (if t155.size + t156.size ≤ 9223372036854775807 then ((bytes_Flag.f x8).bind fun t157 => (if (t155 ++ t156).size + t157.size ≤ 9223372036854775807 then (if (((t155 ++ t156) ++ t157).size : Int) = (wrap64 ((x0.size : Int) - x9)) then (if 0 ≤ (((t155 ++ t156) ++ t157).size : Int) then (if (((t155 ++ t156) ++ t157).size : Int) ≤ (x0.size : Int) then (if (x0.extract 0 ((((t155 ++ t156) ++ t157).size : Int) : Int).toNat).toList = ((t155 ++ t156) ++ t157).toList then (hourglasslaw04_BytesOnce.j1 k x1) else (some false)) else (none)) else (none)) else (some false)) else (none))) else (none)))) else (hourglasslaw04_BytesOnce.j1 k x1)
def hourglasslaw04_BytesOnce.j1 : Nat → Int → Option (Bool)
  | 0, _ => none
  | k + 1, x1 => (bytes_Reader_Fail_nil.f 5).bind fun _ => ((bytes_Reader_Num_nil.f x1).bind fun t158 => (if t158 = 0 then ((bytes_Reader_Text_nil.f).bind fun t159 => (if t159.toList = ([] : List UInt8) then ((bytes_Reader_Flag_nil.f).bind fun t160 => (if t160 = true then (some false) else ((bytes_Reader_Left_nil.f).bind fun t161 => (if t161 = 0 then ((bytes_Reader_End_nil.f).bind fun t162 => (if t162 = 1 then ((hourglasslaw04_awake.f k).bind fun t163 => (some t163)) else (some false))) else (some false))))) else (some false))) else (some false)))
end
def hourglasslaw04_BytesOnce.f (k : Nat) (a0 : ByteArray) (a1 : Int) : Option (Bool) := if (a0.size : Int) > 2000 then ((hourglasslaw04_awake.f k).bind fun t136 => (some t136)) else ((bytes_Open.f a0).bind fun bt137 => ((bytes_Reader_Num.f k bt137.1 bt137.2 a1).bind fun bt140 => ((bytes_Reader_Text.f k bt140.2.1 bt140.2.2).bind fun bt143 => ((bytes_Reader_Flag.f k bt143.2.1 bt143.2.2).bind fun bt146 => ((bytes_Reader_Left.f bt146.2.1 bt146.2.2).bind fun bt149 => ((bytes_Reader_End.f bt149.2.1 bt149.2.2).bind fun bt152 => (if bt152.1 = 0 then (hourglasslaw04_BytesOnce.j0 k a0 a1 bt140.1 bt143.1 bt146.1 bt149.1 true) else (if bt152.1 = 5 then (hourglasslaw04_BytesOnce.j0 k a0 a1 bt140.1 bt143.1 bt146.1 bt149.1 (decide (bt149.1 > 0))) else (hourglasslaw04_BytesOnce.j0 k a0 a1 bt140.1 bt143.1 bt146.1 bt149.1 false)))))))))
theorem hourglasslaw04_BytesOnce.mono_l : ∀ k, (∀ y0 y1 y2 y3 y4 y5 y6, LeO (hourglasslaw04_BytesOnce.j0 k y0 y1 y2 y3 y4 y5 y6) (hourglasslaw04_BytesOnce.j0 (k + 1) y0 y1 y2 y3 y4 y5 y6)) ∧ (∀ y0, LeO (hourglasslaw04_BytesOnce.j1 k y0) (hourglasslaw04_BytesOnce.j1 (k + 1) y0))
  | 0 => ⟨fun _ _ _ _ _ _ _ r h => by simp [hourglasslaw04_BytesOnce.j0] at h, fun _ r h => by simp [hourglasslaw04_BytesOnce.j1] at h⟩
  | k + 1 => by
    obtain ⟨ih0, ih1⟩ := hourglasslaw04_BytesOnce.mono_l k
    refine ⟨?_, ?_⟩
    · intro y0 y1 y2 y3 y4 y5 y6
      unfold hourglasslaw04_BytesOnce.j0
      repeat' first
      | (with_reducible exact ih0 _ _ _ _ _ _ _)
      | (with_reducible exact ih1 _)
      | (with_reducible exact bytes_Num.mono _ _ _)
      | (with_reducible exact bytes_Reader_Flag.mono _ _ _)
      | (with_reducible exact bytes_Reader_Num.mono _ _ _ _)
      | (with_reducible exact bytes_Reader_Text.mono _ _ _)
      | (with_reducible exact bytes_Text.mono _ _)
      | (with_reducible exact hourglasslaw04_awake.mono _)
      | (with_reducible exact LeO.refl _)
      | (with_reducible exact LeO.none _)
      | (with_reducible refine LeO.ite ?_ ?_)
      | (with_reducible refine LeO.bind ?_ (fun _ => ?_))
      | exact ih0 _ _ _ _ _ _ _
      | exact ih1 _
      | exact bytes_Num.mono _ _ _
      | exact bytes_Reader_Flag.mono _ _ _
      | exact bytes_Reader_Num.mono _ _ _ _
      | exact bytes_Reader_Text.mono _ _ _
      | exact bytes_Text.mono _ _
      | exact hourglasslaw04_awake.mono _
      | exact LeO.none _
      | refine LeO.ite ?_ ?_
      | refine LeO.bind ?_ (fun _ => ?_)
    · intro y0
      unfold hourglasslaw04_BytesOnce.j1
      repeat' first
      | (with_reducible exact ih0 _ _ _ _ _ _ _)
      | (with_reducible exact ih1 _)
      | (with_reducible exact bytes_Num.mono _ _ _)
      | (with_reducible exact bytes_Reader_Flag.mono _ _ _)
      | (with_reducible exact bytes_Reader_Num.mono _ _ _ _)
      | (with_reducible exact bytes_Reader_Text.mono _ _ _)
      | (with_reducible exact bytes_Text.mono _ _)
      | (with_reducible exact hourglasslaw04_awake.mono _)
      | (with_reducible exact LeO.refl _)
      | (with_reducible exact LeO.none _)
      | (with_reducible refine LeO.ite ?_ ?_)
      | (with_reducible refine LeO.bind ?_ (fun _ => ?_))
      | exact ih0 _ _ _ _ _ _ _
      | exact ih1 _
      | exact bytes_Num.mono _ _ _
      | exact bytes_Reader_Flag.mono _ _ _
      | exact bytes_Reader_Num.mono _ _ _ _
      | exact bytes_Reader_Text.mono _ _ _
      | exact bytes_Text.mono _ _
      | exact hourglasslaw04_awake.mono _
      | exact LeO.none _
      | refine LeO.ite ?_ ?_
      | refine LeO.bind ?_ (fun _ => ?_)
theorem hourglasslaw04_BytesOnce.mono : ∀ a0 a1 k, LeO (hourglasslaw04_BytesOnce.f k a0 a1) (hourglasslaw04_BytesOnce.f (k + 1) a0 a1) := by
  intro a0 a1 k
  obtain ⟨ih0, ih1⟩ := hourglasslaw04_BytesOnce.mono_l k
  unfold hourglasslaw04_BytesOnce.f
  repeat' first
      | (with_reducible exact ih0 _ _ _ _ _ _ _)
      | (with_reducible exact ih1 _)
      | (with_reducible exact bytes_Num.mono _ _ _)
      | (with_reducible exact bytes_Reader_Flag.mono _ _ _)
      | (with_reducible exact bytes_Reader_Num.mono _ _ _ _)
      | (with_reducible exact bytes_Reader_Text.mono _ _ _)
      | (with_reducible exact bytes_Text.mono _ _)
      | (with_reducible exact hourglasslaw04_awake.mono _)
      | (with_reducible exact LeO.refl _)
      | (with_reducible exact LeO.none _)
      | (with_reducible refine LeO.ite ?_ ?_)
      | (with_reducible refine LeO.bind ?_ (fun _ => ?_))
      | exact ih0 _ _ _ _ _ _ _
      | exact ih1 _
      | exact bytes_Num.mono _ _ _
      | exact bytes_Reader_Flag.mono _ _ _
      | exact bytes_Reader_Num.mono _ _ _ _
      | exact bytes_Reader_Text.mono _ _ _
      | exact bytes_Text.mono _ _
      | exact hourglasslaw04_awake.mono _
      | exact LeO.none _
      | refine LeO.ite ?_ ?_
      | refine LeO.bind ?_ (fun _ => ?_)
set_option maxHeartbeats 40000000 in
set_option maxRecDepth 100000 in
theorem hourglasslaw04_BytesOnce.calls (k : Nat) (a0 : ByteArray) (a1 : Int) (r : Bool) (w : World) (h : hourglasslaw04_BytesOnce.f k a0 a1 = some r) (hrT : r = true) :
    Calls Try.prog 6 #[.string a0, .int .i64 a1] w fun e w' => e = .returned (.bool r) ∧ Below w.heap.size w w' := by
  have HRT := Aside0.mk hrT
  clear hrT
  have HB := Aside0.mk (Below.refl w.heap.size w)
  have H : (if (a0.size : Int) > 2000 then ((hourglasslaw04_awake.f k).bind fun t136 => (some t136)) else ((bytes_Open.f a0).bind fun bt137 => ((bytes_Reader_Num.f k bt137.1 bt137.2 a1).bind fun bt140 => ((bytes_Reader_Text.f k bt140.2.1 bt140.2.2).bind fun bt143 => ((bytes_Reader_Flag.f k bt143.2.1 bt143.2.2).bind fun bt146 => ((bytes_Reader_Left.f bt146.2.1 bt146.2.2).bind fun bt149 => ((bytes_Reader_End.f bt149.2.1 bt149.2.2).bind fun bt152 => (if bt152.1 = 0 then (hourglasslaw04_BytesOnce.j0 k a0 a1 bt140.1 bt143.1 bt146.1 bt149.1 true) else (if bt152.1 = 5 then (hourglasslaw04_BytesOnce.j0 k a0 a1 bt140.1 bt143.1 bt146.1 bt149.1 (decide (bt149.1 > 0))) else (hourglasslaw04_BytesOnce.j0 k a0 a1 bt140.1 bt143.1 bt146.1 bt149.1 false)))))))))) = some r := h
  clear h
  by_cases c3 : (a0.size : Int) > 2000
  · rw [if_pos c3] at H
    have c3b0 : decide (2000 < (a0.size : Int)) = true := decide_eq_true c3
    have c3b1 : decide (2000 < a0.size) = true := decide_eq_true (by omega)
    clear c3
    replace H := Option.bind_eq_some_iff.mp H
    obtain ⟨t136, A40, H⟩ := H
    replace H : (some t136) = some r := H
    have A4 := Aside0.mk A40
    clear A40
    first
      | exact absurd (Option.some.inj H) (by rw [HRT.out]; decide)
      | (obtain rfl := Option.some.inj H
         go_enter Try.func6, Try.ntmps6
         go_wp2_with (first | ((with_reducible refine gate_callee (f := 14) rfl ?_); refine goesL_ (some 16) rfl rfl Try.func14 (by kernel_rfl) rfl #[] rfl (by (try simp only [List.map_toArray, List.map_cons, List.map_nil]); first | done | rfl | (simp only [List.length_drop, List.length_take]; rfl)) ?_; (with_reducible refine (hourglasslaw04_awake.calls k  t136 _ A4.out).mono ?_); rintro e w5 ⟨rfl, hb⟩; refine ⟨_, rfl, ?_⟩; have n0_ := Aside0.mk (below_step (by repeat (first | (with_reducible first | exact HB.out | apply below_alloc | apply pw_below_drewN | apply below_drew1) | exact HB.out)) hb); clear HB; have HB := n0_; clear n0_; (try clear hb); (try clear hb2); (try clear hk); (try clear hi)))
         go_ret
         exact ⟨by first | rfl | (simp [errW_none, errW_some] <;> rfl) | (simp [*, errW_none, errW_some] <;> rfl), by repeat (first | (with_reducible first | exact HB.out | apply below_alloc | apply pw_below_drewN | apply below_drew1) | exact HB.out)⟩)
  · rw [if_neg c3] at H
    have c3b0 : decide (2000 < (a0.size : Int)) = false := decide_eq_false c3
    have c3b1 : decide (2000 < a0.size) = false := decide_eq_false (by omega)
    clear c3
    replace H := Option.bind_eq_some_iff.mp H
    obtain ⟨⟨t137, t138⟩, A60, H⟩ := H
    replace H : ((bytes_Reader_Num.f k t137 t138 a1).bind fun bt140 => ((bytes_Reader_Text.f k bt140.2.1 bt140.2.2).bind fun bt143 => ((bytes_Reader_Flag.f k bt143.2.1 bt143.2.2).bind fun bt146 => ((bytes_Reader_Left.f bt146.2.1 bt146.2.2).bind fun bt149 => ((bytes_Reader_End.f bt149.2.1 bt149.2.2).bind fun bt152 => (if bt152.1 = 0 then (hourglasslaw04_BytesOnce.j0 k a0 a1 bt140.1 bt143.1 bt146.1 bt149.1 true) else (if bt152.1 = 5 then (hourglasslaw04_BytesOnce.j0 k a0 a1 bt140.1 bt143.1 bt146.1 bt149.1 (decide (bt149.1 > 0))) else (hourglasslaw04_BytesOnce.j0 k a0 a1 bt140.1 bt143.1 bt146.1 bt149.1 false)))))))) = some r := H
    have A6 := Aside0.mk A60
    clear A60
    replace H := Option.bind_eq_some_iff.mp H
    obtain ⟨⟨t140, t141, t142⟩, A70, H⟩ := H
    replace H : ((bytes_Reader_Text.f k t141 t142).bind fun bt143 => ((bytes_Reader_Flag.f k bt143.2.1 bt143.2.2).bind fun bt146 => ((bytes_Reader_Left.f bt146.2.1 bt146.2.2).bind fun bt149 => ((bytes_Reader_End.f bt149.2.1 bt149.2.2).bind fun bt152 => (if bt152.1 = 0 then (hourglasslaw04_BytesOnce.j0 k a0 a1 t140 bt143.1 bt146.1 bt149.1 true) else (if bt152.1 = 5 then (hourglasslaw04_BytesOnce.j0 k a0 a1 t140 bt143.1 bt146.1 bt149.1 (decide (bt149.1 > 0))) else (hourglasslaw04_BytesOnce.j0 k a0 a1 t140 bt143.1 bt146.1 bt149.1 false))))))) = some r := H
    have A7 := Aside0.mk A70
    clear A70
    replace H := Option.bind_eq_some_iff.mp H
    obtain ⟨⟨t143, t144, t145⟩, A80, H⟩ := H
    replace H : ((bytes_Reader_Flag.f k t144 t145).bind fun bt146 => ((bytes_Reader_Left.f bt146.2.1 bt146.2.2).bind fun bt149 => ((bytes_Reader_End.f bt149.2.1 bt149.2.2).bind fun bt152 => (if bt152.1 = 0 then (hourglasslaw04_BytesOnce.j0 k a0 a1 t140 t143 bt146.1 bt149.1 true) else (if bt152.1 = 5 then (hourglasslaw04_BytesOnce.j0 k a0 a1 t140 t143 bt146.1 bt149.1 (decide (bt149.1 > 0))) else (hourglasslaw04_BytesOnce.j0 k a0 a1 t140 t143 bt146.1 bt149.1 false)))))) = some r := H
    have A8 := Aside0.mk A80
    clear A80
    replace H := Option.bind_eq_some_iff.mp H
    obtain ⟨⟨t146, t147, t148⟩, A90, H⟩ := H
    replace H : ((bytes_Reader_Left.f t147 t148).bind fun bt149 => ((bytes_Reader_End.f bt149.2.1 bt149.2.2).bind fun bt152 => (if bt152.1 = 0 then (hourglasslaw04_BytesOnce.j0 k a0 a1 t140 t143 t146 bt149.1 true) else (if bt152.1 = 5 then (hourglasslaw04_BytesOnce.j0 k a0 a1 t140 t143 t146 bt149.1 (decide (bt149.1 > 0))) else (hourglasslaw04_BytesOnce.j0 k a0 a1 t140 t143 t146 bt149.1 false))))) = some r := H
    have A9 := Aside0.mk A90
    clear A90
    replace H := Option.bind_eq_some_iff.mp H
    obtain ⟨⟨t149, t150, t151⟩, A100, H⟩ := H
    replace H : ((bytes_Reader_End.f t150 t151).bind fun bt152 => (if bt152.1 = 0 then (hourglasslaw04_BytesOnce.j0 k a0 a1 t140 t143 t146 t149 true) else (if bt152.1 = 5 then (hourglasslaw04_BytesOnce.j0 k a0 a1 t140 t143 t146 t149 (decide (t149 > 0))) else (hourglasslaw04_BytesOnce.j0 k a0 a1 t140 t143 t146 t149 false)))) = some r := H
    have A10 := Aside0.mk A100
    clear A100
    replace H := Option.bind_eq_some_iff.mp H
    obtain ⟨⟨t152, t153, t154⟩, A110, H⟩ := H
    replace H : (if t152 = 0 then (hourglasslaw04_BytesOnce.j0 k a0 a1 t140 t143 t146 t149 true) else (if t152 = 5 then (hourglasslaw04_BytesOnce.j0 k a0 a1 t140 t143 t146 t149 (decide (t149 > 0))) else (hourglasslaw04_BytesOnce.j0 k a0 a1 t140 t143 t146 t149 false))) = some r := H
    have A11 := Aside0.mk A110
    clear A110
    have HC12 := Aside0.mk H
    clear H
    go_enter Try.func6, Try.ntmps6
    go_upto_region 9 with (first | ((with_reducible refine gate_callee (f := 20) rfl ?_); refine goesL_ (some 18) rfl rfl Try.func20 (by kernel_rfl) rfl #[.string a0] rfl (by (try simp only [List.map_toArray, List.map_cons, List.map_nil]); first | done | rfl | (simp only [List.length_drop, List.length_take]; rfl)) ?_; (with_reducible refine (bytes_Open.calls a0 t137 t138 w _ ?side1 A6.out).mono ?_); (case side1 => repeat (first | (with_reducible first | exact HB.out | apply below_alloc | apply pw_below_drewN | apply below_drew1) | exact HB.out)); rintro e w13 ⟨g139, rfl, hi, hb, hb2⟩; refine ⟨_, rfl, ?_⟩; have n0_ := Aside0.mk (hb); have n1_ := Aside0.mk (hi); clear HB; have HB := n0_; have HI139 := n1_; clear n0_ n1_; (try clear hb); (try clear hb2); (try clear hk); (try clear hi)) | ((with_reducible refine gate_callee (f := 26) rfl ?_); refine goesL_ (some 21) rfl rfl Try.func26 (by kernel_rfl) rfl #[.pointer (some ⟨g139, 0, none⟩), .int .i64 a1] rfl (by (try simp only [List.map_toArray, List.map_cons, List.map_nil]); first | done | rfl | (simp only [List.length_drop, List.length_take]; rfl)) ?_; (with_reducible refine (bytes_Reader_Num.calls k g139 t137 t138 a1 t140 t141 t142 w _ ?side1 ?side2 A7.out).mono ?_); (case side1 => repeat (first | (with_reducible first | exact HI139.out | apply IsS81.alloc | apply IsS81.drewN | apply IsS81.drew | apply IsS81.set_0 | apply IsS81.set_1) | exact HI139.out)); (case side2 => repeat (first | (with_reducible first | exact HB.out | apply below_alloc | apply pw_below_drewN | apply below_drew1 | refine below_set ?_ (IsS81.ge HI139.out)) | exact HB.out)); rintro e w14 ⟨rfl, hi, hb, hk⟩; refine ⟨_, rfl, ?_⟩; have n0_ := Aside0.mk (hb); have n1_ := Aside0.mk (hi); clear HB; clear HI139; have HB := n0_; have HI139 := n1_; clear n0_ n1_; (try clear hb); (try clear hb2); (try clear hk); (try clear hi)) | ((with_reducible refine gate_callee (f := 27) rfl ?_); refine goesL_ (some 23) rfl rfl Try.func27 (by kernel_rfl) rfl #[.pointer (some ⟨g139, 0, none⟩)] rfl (by (try simp only [List.map_toArray, List.map_cons, List.map_nil]); first | done | rfl | (simp only [List.length_drop, List.length_take]; rfl)) ?_; (with_reducible refine (bytes_Reader_Text.calls k g139 t141 t142 t143 t144 t145 w _ ?side1 ?side2 A8.out).mono ?_); (case side1 => repeat (first | (with_reducible first | exact HI139.out | apply IsS81.alloc | apply IsS81.drewN | apply IsS81.drew | apply IsS81.set_0 | apply IsS81.set_1) | exact HI139.out)); (case side2 => repeat (first | (with_reducible first | exact HB.out | apply below_alloc | apply pw_below_drewN | apply below_drew1 | refine below_set ?_ (IsS81.ge HI139.out)) | exact HB.out)); rintro e w15 ⟨rfl, hi, hb, hk⟩; refine ⟨_, rfl, ?_⟩; have n0_ := Aside0.mk (hb); have n1_ := Aside0.mk (hi); clear HB; clear HI139; have HB := n0_; have HI139 := n1_; clear n0_ n1_; (try clear hb); (try clear hb2); (try clear hk); (try clear hi)) | ((with_reducible refine gate_callee (f := 28) rfl ?_); refine goesL_ (some 25) rfl rfl Try.func28 (by kernel_rfl) rfl #[.pointer (some ⟨g139, 0, none⟩)] rfl (by (try simp only [List.map_toArray, List.map_cons, List.map_nil]); first | done | rfl | (simp only [List.length_drop, List.length_take]; rfl)) ?_; (with_reducible refine (bytes_Reader_Flag.calls k g139 t144 t145 t146 t147 t148 w _ ?side1 ?side2 A9.out).mono ?_); (case side1 => repeat (first | (with_reducible first | exact HI139.out | apply IsS81.alloc | apply IsS81.drewN | apply IsS81.drew | apply IsS81.set_0 | apply IsS81.set_1) | exact HI139.out)); (case side2 => repeat (first | (with_reducible first | exact HB.out | apply below_alloc | apply pw_below_drewN | apply below_drew1 | refine below_set ?_ (IsS81.ge HI139.out)) | exact HB.out)); rintro e w16 ⟨rfl, hi, hb, hk⟩; refine ⟨_, rfl, ?_⟩; have n0_ := Aside0.mk (hb); have n1_ := Aside0.mk (hi); clear HB; clear HI139; have HB := n0_; have HI139 := n1_; clear n0_ n1_; (try clear hb); (try clear hb2); (try clear hk); (try clear hi)) | ((with_reducible refine gate_callee (f := 22) rfl ?_); refine goesL_ (some 27) rfl rfl Try.func22 (by kernel_rfl) rfl #[.pointer (some ⟨g139, 0, none⟩)] rfl (by (try simp only [List.map_toArray, List.map_cons, List.map_nil]); first | done | rfl | (simp only [List.length_drop, List.length_take]; rfl)) ?_; (with_reducible refine (bytes_Reader_Left.calls g139 t147 t148 t149 t150 t151 w _ ?side1 ?side2 A10.out).mono ?_); (case side1 => repeat (first | (with_reducible first | exact HI139.out | apply IsS81.alloc | apply IsS81.drewN | apply IsS81.drew | apply IsS81.set_0 | apply IsS81.set_1) | exact HI139.out)); (case side2 => repeat (first | (with_reducible first | exact HB.out | apply below_alloc | apply pw_below_drewN | apply below_drew1 | refine below_set ?_ (IsS81.ge HI139.out)) | exact HB.out)); rintro e w17 ⟨rfl, hi, hb, hk⟩; refine ⟨_, rfl, ?_⟩; have n0_ := Aside0.mk (hb); have n1_ := Aside0.mk (hi); clear HB; clear HI139; have HB := n0_; have HI139 := n1_; clear n0_ n1_; (try clear hb); (try clear hb2); (try clear hk); (try clear hi)) | ((with_reducible refine gate_callee (f := 24) rfl ?_); refine goesL_ (some 29) rfl rfl Try.func24 (by kernel_rfl) rfl #[.pointer (some ⟨g139, 0, none⟩)] rfl (by (try simp only [List.map_toArray, List.map_cons, List.map_nil]); first | done | rfl | (simp only [List.length_drop, List.length_take]; rfl)) ?_; (with_reducible refine (bytes_Reader_End.calls g139 t150 t151 t152 t153 t154 w _ ?side1 ?side2 A11.out).mono ?_); (case side1 => repeat (first | (with_reducible first | exact HI139.out | apply IsS81.alloc | apply IsS81.drewN | apply IsS81.drew | apply IsS81.set_0 | apply IsS81.set_1) | exact HI139.out)); (case side2 => repeat (first | (with_reducible first | exact HB.out | apply below_alloc | apply pw_below_drewN | apply below_drew1 | refine below_set ?_ (IsS81.ge HI139.out)) | exact HB.out)); rintro e w18 ⟨rfl, hi, hb, hk⟩; refine ⟨_, rfl, ?_⟩; have n0_ := Aside0.mk (hb); have n1_ := Aside0.mk (hi); clear HB; clear HI139; have HB := n0_; have HI139 := n1_; clear n0_ n1_; (try clear hb); (try clear hb2); (try clear hk); (try clear hi)))
    (try simp only [Act.put, List.setIfInBounds_toArray, List.set_cons_zero, List.set_cons_succ])
    go_cut [39] (fun v39 wc => ∃ (kq : Nat) (x39_11 : Bool), v39 = .bool x39_11 ∧ Aside0 (hourglasslaw04_BytesOnce.j0 kq a0 a1 t140 t143 t146 t149 x39_11 = some r) ∧ Aside0 (kq ≤ k) ∧ Aside0 (Below w.heap.size w wc))
    case first =>
      have H := HC12.out
      clear HC12
      by_cases c19 : t152 = 0
      · rw [if_pos c19] at H
        have c19b0 : (t152 == 0) = true := beq_iff_eq.mpr c19
        have c19b1 : (t152 != 0) = false := bne_eq_false_iff_eq.mpr c19
        clear c19
        (first | rw [c19b0] | (simp only [i64_w, i32_w]; rw [c19b0]) | skip)
        have H' := Aside0.mk H
        clear H
        go_wp2
        go_meet
        case rel => exact ⟨_, (true), (by first | rfl | (simp; done) | (simp [*]; done)), H', ⟨by first | omega | exact Nat.le_refl _⟩, ⟨by repeat (first | (with_reducible first | exact HB.out | apply below_alloc | apply pw_below_drewN | apply below_drew1 | refine below_set ?_ (IsS81.ge HI139.out)) | exact HB.out)⟩⟩
      · rw [if_neg c19] at H
        have c19b0 : (t152 == 0) = false := beq_eq_false_iff_ne.mpr c19
        have c19b1 : (t152 != 0) = true := bne_iff_ne.mpr c19
        (first | rw [c19b0] | (simp only [i64_w, i32_w]; rw [c19b0]) | skip)
        by_cases c20 : t152 = 5
        · rw [if_pos c20] at H
          have c20b0 : (t152 == 5) = true := beq_iff_eq.mpr c20
          have c20b1 : (t152 != 5) = false := bne_eq_false_iff_eq.mpr c20
          clear c20
          have H' := Aside0.mk H
          clear H
          go_wp2
          go_meet
          case rel => exact ⟨_, (decide (t149 > 0)), (by first | rfl | (simp; done) | (simp [*]; done)), H', ⟨by first | omega | exact Nat.le_refl _⟩, ⟨by repeat (first | (with_reducible first | exact HB.out | apply below_alloc | apply pw_below_drewN | apply below_drew1 | refine below_set ?_ (IsS81.ge HI139.out)) | exact HB.out)⟩⟩
        · rw [if_neg c20] at H
          have c20b0 : (t152 == 5) = false := beq_eq_false_iff_ne.mpr c20
          have c20b1 : (t152 != 5) = true := bne_iff_ne.mpr c20
          have H' := Aside0.mk H
          clear H
          go_wp2
          go_meet
          case rel => exact ⟨_, (false), (by first | rfl | (simp; done) | (simp [*]; done)), H', ⟨by first | omega | exact Nat.le_refl _⟩, ⟨by repeat (first | (with_reducible first | exact HB.out | apply below_alloc | apply pw_below_drewN | apply below_drew1 | refine below_set ?_ (IsS81.ge HI139.out)) | exact HB.out)⟩⟩
    case rest =>
      clear HC12
      try clear c1
      try clear c2
      try clear p2
      try clear c3
      try clear c3b0
      try clear c3b1
      try clear c6
      try clear c14
      try clear c19
      try clear c19b0
      try clear c19b1
      try clear c20
      try clear c20b0
      try clear c20b1
      obtain ⟨kq, x39_11, rfl, HA, HJ11, HB⟩ := hcut
      cases kq with
      | zero => exact absurd HA.out (by simp [hourglasslaw04_BytesOnce.j0])
      | succ kj11 =>
        have H := HA.out
        clear HA
        simp only [hourglasslaw04_BytesOnce.j0] at H
        have HC21 := Aside0.mk H
        clear H
        go_upto_if 39 with (fail)
        go_cut [] (fun wc => ∃ (kq : Nat), Aside0 (hourglasslaw04_BytesOnce.j1 kq a1 = some r) ∧ Aside0 (kq ≤ kj11) ∧ Aside0 (Below w.heap.size w wc))
        case first =>
          have H := HC21.out
          clear HC21
          by_cases c22 : x39_11 = true
          · subst c22
            have H1 : ((bytes_Num.f kj11 t140 a1).bind fun t155 => ((bytes_Text.f kj11 t143).bind fun t156 => (if t155.size + t156.size ≤ 9223372036854775807 then ((bytes_Flag.f t146).bind fun t157 => (if (t155 ++ t156).size + t157.size ≤ 9223372036854775807 then (if (((t155 ++ t156) ++ t157).size : Int) = (wrap64 ((a0.size : Int) - t149)) then (if 0 ≤ (((t155 ++ t156) ++ t157).size : Int) then (if (((t155 ++ t156) ++ t157).size : Int) ≤ (a0.size : Int) then (if (a0.extract 0 ((((t155 ++ t156) ++ t157).size : Int) : Int).toNat).toList = ((t155 ++ t156) ++ t157).toList then (hourglasslaw04_BytesOnce.j1 kj11 a1) else (some false)) else (none)) else (none)) else (some false)) else (none))) else (none)))) = some r := by rw [if_pos rfl] at H; exact H
            clear H
            have H := H1
            clear H1
            replace H := Option.bind_eq_some_iff.mp H
            obtain ⟨t155, A230, H⟩ := H
            replace H : ((bytes_Text.f kj11 t143).bind fun t156 => (if t155.size + t156.size ≤ 9223372036854775807 then ((bytes_Flag.f t146).bind fun t157 => (if (t155 ++ t156).size + t157.size ≤ 9223372036854775807 then (if (((t155 ++ t156) ++ t157).size : Int) = (wrap64 ((a0.size : Int) - t149)) then (if 0 ≤ (((t155 ++ t156) ++ t157).size : Int) then (if (((t155 ++ t156) ++ t157).size : Int) ≤ (a0.size : Int) then (if (a0.extract 0 ((((t155 ++ t156) ++ t157).size : Int) : Int).toNat).toList = ((t155 ++ t156) ++ t157).toList then (hourglasslaw04_BytesOnce.j1 kj11 a1) else (some false)) else (none)) else (none)) else (some false)) else (none))) else (none))) = some r := H
            have A23 := Aside0.mk A230
            clear A230
            replace H := Option.bind_eq_some_iff.mp H
            obtain ⟨t156, A240, H⟩ := H
            replace H : (if t155.size + t156.size ≤ 9223372036854775807 then ((bytes_Flag.f t146).bind fun t157 => (if (t155 ++ t156).size + t157.size ≤ 9223372036854775807 then (if (((t155 ++ t156) ++ t157).size : Int) = (wrap64 ((a0.size : Int) - t149)) then (if 0 ≤ (((t155 ++ t156) ++ t157).size : Int) then (if (((t155 ++ t156) ++ t157).size : Int) ≤ (a0.size : Int) then (if (a0.extract 0 ((((t155 ++ t156) ++ t157).size : Int) : Int).toNat).toList = ((t155 ++ t156) ++ t157).toList then (hourglasslaw04_BytesOnce.j1 kj11 a1) else (some false)) else (none)) else (none)) else (some false)) else (none))) else (none)) = some r := H
            have A24 := Aside0.mk A240
            clear A240
            by_cases c25 : t155.size + t156.size ≤ 9223372036854775807
            · rw [if_pos c25] at H
              have c25b0 := eq_true c25
              have c25b1 : decide (t155.size + t156.size ≤ 9223372036854775807) = true := decide_eq_true c25
              try have c25b2 : (9223372036854775807 < t155.size + t156.size) = False := eq_false (Nat.not_lt.2 c25)
              replace H := Option.bind_eq_some_iff.mp H
              obtain ⟨t157, A260, H⟩ := H
              replace H : (if (t155 ++ t156).size + t157.size ≤ 9223372036854775807 then (if (((t155 ++ t156) ++ t157).size : Int) = (wrap64 ((a0.size : Int) - t149)) then (if 0 ≤ (((t155 ++ t156) ++ t157).size : Int) then (if (((t155 ++ t156) ++ t157).size : Int) ≤ (a0.size : Int) then (if (a0.extract 0 ((((t155 ++ t156) ++ t157).size : Int) : Int).toNat).toList = ((t155 ++ t156) ++ t157).toList then (hourglasslaw04_BytesOnce.j1 kj11 a1) else (some false)) else (none)) else (none)) else (some false)) else (none)) = some r := H
              have A26 := Aside0.mk A260
              clear A260
              by_cases c27 : (t155 ++ t156).size + t157.size ≤ 9223372036854775807
              · rw [if_pos c27] at H
                have c27b0 := eq_true c27
                have c27b1 : decide ((t155 ++ t156).size + t157.size ≤ 9223372036854775807) = true := decide_eq_true c27
                try have c27b2 : (9223372036854775807 < (t155 ++ t156).size + t157.size) = False := eq_false (Nat.not_lt.2 c27)
                (try (have c27b3 := c27; simp only [ByteArray.size_append] at c27b3; have c27b4 := eq_false (Nat.not_lt.2 c27b3); have c27b5 := eq_true c27b3))
                by_cases c28 : (((t155 ++ t156) ++ t157).size : Int) = (wrap64 ((a0.size : Int) - t149))
                · rw [if_pos c28] at H
                  have c28b0 : ((((t155 ++ t156) ++ t157).size : Int) == (wrap64 ((a0.size : Int) - t149))) = true := beq_iff_eq.mpr c28
                  have c28b1 : ((((t155 ++ t156) ++ t157).size : Int) != (wrap64 ((a0.size : Int) - t149))) = false := bne_eq_false_iff_eq.mpr c28
                  have HQ_ := Aside0.mk c28; have c_q := c28; simp only [ByteArray.size_append, Int.natCast_add] at c_q
                  clear c28
                  (first | rw [c28b0] | (simp only [i64_w, i32_w]; rw [c28b0]) | skip)
                  by_cases c29 : 0 ≤ (((t155 ++ t156) ++ t157).size : Int)
                  · rw [if_pos c29] at H
                    have c29b0 := eq_true c29
                    have c29b1 : decide (0 ≤ (((t155 ++ t156) ++ t157).size : Int)) = true := decide_eq_true c29
                    have c29q := c29; rw [HQ_.out] at c29q
                    by_cases c30 : (((t155 ++ t156) ++ t157).size : Int) ≤ (a0.size : Int)
                    · rw [if_pos c30] at H
                      have c30b0 := eq_true c30
                      have c30b1 : decide ((((t155 ++ t156) ++ t157).size : Int) ≤ (a0.size : Int)) = true := decide_eq_true c30
                      have c30q := c30; rw [HQ_.out] at c30q
                      by_cases c31 : (a0.extract 0 ((((t155 ++ t156) ++ t157).size : Int) : Int).toNat).toList = ((t155 ++ t156) ++ t157).toList
                      · rw [if_pos c31] at H
                        have c31b0 : ((a0.extract 0 ((((t155 ++ t156) ++ t157).size : Int) : Int).toNat).toList == ((t155 ++ t156) ++ t157).toList) = true := beq_iff_eq.mpr c31
                        have c31b1 : ((a0.extract 0 ((((t155 ++ t156) ++ t157).size : Int) : Int).toNat).toList != ((t155 ++ t156) ++ t157).toList) = false := bne_eq_false_iff_eq.mpr c31
                        have c31b2 := c31b0; rw [HQ_.out] at c31b2
                        clear c31
                        have H' := Aside0.mk H
                        clear H
                        go_wp2_with (first | ((with_reducible refine gate_callee (f := 15) rfl ?_); refine goesL_ (some 42) rfl rfl Try.func15 (by kernel_rfl) rfl #[.int .i64 t140, .int .i64 a1] rfl (by (try simp only [List.map_toArray, List.map_cons, List.map_nil]); first | done | rfl | (simp only [List.length_drop, List.length_take]; rfl)) ?_; (with_reducible refine (bytes_Num.calls kj11 t140 a1 t155 _ A23.out).mono ?_); rintro e w32 ⟨rfl, hb⟩; refine ⟨_, rfl, ?_⟩; have n0_ := Aside0.mk (below_step (by repeat (first | (with_reducible first | exact HB.out | apply below_alloc | apply pw_below_drewN | apply below_drew1) | exact HB.out)) hb); clear HB; have HB := n0_; clear n0_; (try clear hb); (try clear hb2); (try clear hk); (try clear hi)) | ((with_reducible refine gate_callee (f := 17) rfl ?_); refine goesL_ (some 44) rfl rfl Try.func17 (by kernel_rfl) rfl #[.string t143] rfl (by (try simp only [List.map_toArray, List.map_cons, List.map_nil]); first | done | rfl | (simp only [List.length_drop, List.length_take]; rfl)) ?_; (with_reducible refine (bytes_Text.calls kj11 t143 t156 _ A24.out).mono ?_); rintro e w33 ⟨rfl, hb⟩; refine ⟨_, rfl, ?_⟩; have n0_ := Aside0.mk (below_step (by repeat (first | (with_reducible first | exact HB.out | apply below_alloc | apply pw_below_drewN | apply below_drew1) | exact HB.out)) hb); clear HB; have HB := n0_; clear n0_; (try clear hb); (try clear hb2); (try clear hk); (try clear hi)) | ((with_reducible refine gate_callee (f := 19) rfl ?_); refine goesL_ (some 47) rfl rfl Try.func19 (by kernel_rfl) rfl #[.bool t146] rfl (by (try simp only [List.map_toArray, List.map_cons, List.map_nil]); first | done | rfl | (simp only [List.length_drop, List.length_take]; rfl)) ?_; (with_reducible refine (bytes_Flag.calls t146 t157 _ A26.out).mono ?_); rintro e w' ⟨rfl, ⟨nd, rfl⟩⟩; refine ⟨_, rfl, ?_⟩))
                        go_meet
                        case rel => exact ⟨_, H', ⟨by have := HJ11.out; first | omega | exact Nat.le_refl _⟩, ⟨by repeat (first | (with_reducible first | exact HB.out | apply below_alloc | apply pw_below_drewN | apply below_drew1) | exact HB.out)⟩⟩
                      · rw [if_neg c31] at H
                        have c31b0 : ((a0.extract 0 ((((t155 ++ t156) ++ t157).size : Int) : Int).toNat).toList == ((t155 ++ t156) ++ t157).toList) = false := beq_eq_false_iff_ne.mpr c31
                        have c31b1 : ((a0.extract 0 ((((t155 ++ t156) ++ t157).size : Int) : Int).toNat).toList != ((t155 ++ t156) ++ t157).toList) = true := bne_iff_ne.mpr c31
                        exact absurd (Option.some.inj H) (by rw [HRT.out]; decide)
                    · rw [if_neg c30] at H
                      exact absurd H (by simp)
                  · rw [if_neg c29] at H
                    exact absurd H (by simp)
                · rw [if_neg c28] at H
                  have c28b0 : ((((t155 ++ t156) ++ t157).size : Int) == (wrap64 ((a0.size : Int) - t149))) = false := beq_eq_false_iff_ne.mpr c28
                  have c28b1 : ((((t155 ++ t156) ++ t157).size : Int) != (wrap64 ((a0.size : Int) - t149))) = true := bne_iff_ne.mpr c28
                  (first | rw [c28b0] | (simp only [i64_w, i32_w]; rw [c28b0]) | skip)
                  exact absurd (Option.some.inj H) (by rw [HRT.out]; decide)
              · rw [if_neg c27] at H
                exact absurd H (by simp)
            · rw [if_neg c25] at H
              exact absurd H (by simp)
          · replace c22 := Bool.eq_false_iff.mpr c22
            subst c22
            have H1 : (hourglasslaw04_BytesOnce.j1 kj11 a1) = some r := by rw [if_neg (show ¬ (false = true) by decide)] at H; exact H
            clear H
            have H := H1
            clear H1
            have H' := Aside0.mk H
            clear H
            go_wp2
            go_meet
            case rel => exact ⟨_, H', ⟨by have := HJ11.out; first | omega | exact Nat.le_refl _⟩, ⟨by repeat (first | (with_reducible first | exact HB.out | apply below_alloc | apply pw_below_drewN | apply below_drew1) | exact HB.out)⟩⟩
        case rest =>
          clear HC21
          try clear c1
          try clear c2
          try clear p2
          try clear c3
          try clear c3b0
          try clear c3b1
          try clear c6
          try clear p6
          try clear c14
          try clear c15
          try clear c17
          try clear c19
          try clear c19b0
          try clear c19b1
          try clear c20
          try clear c20b0
          try clear c20b1
          try clear c22
          try clear c24
          try clear c25
          try clear c25b0
          try clear c25b1
          try clear c25b2
          try clear c26
          try clear c27
          try clear c27b0
          try clear c27b1
          try clear c27b2
          try clear c28
          try clear c28b0
          try clear c28b1
          try clear c29
          try clear c29b0
          try clear c29b1
          try clear c30
          try clear c30b0
          try clear c30b1
          try clear c31
          try clear c31b0
          try clear c31b1
          try clear p2
          obtain ⟨kq, HA, HJ20, HB⟩ := hcut
          cases kq with
          | zero => exact absurd HA.out (by simp [hourglasslaw04_BytesOnce.j1])
          | succ kj20 =>
            have H := HA.out
            clear HA
            simp only [hourglasslaw04_BytesOnce.j1] at H
            replace H := Option.bind_eq_some_iff.mp H
            obtain ⟨_, A380, H⟩ := H
            replace H : ((bytes_Reader_Num_nil.f a1).bind fun t158 => (if t158 = 0 then ((bytes_Reader_Text_nil.f).bind fun t159 => (if t159.toList = ([] : List UInt8) then ((bytes_Reader_Flag_nil.f).bind fun t160 => (if t160 = true then (some false) else ((bytes_Reader_Left_nil.f).bind fun t161 => (if t161 = 0 then ((bytes_Reader_End_nil.f).bind fun t162 => (if t162 = 1 then ((hourglasslaw04_awake.f kj20).bind fun t163 => (some t163)) else (some false))) else (some false))))) else (some false))) else (some false))) = some r := H
            have A38 := Aside0.mk A380
            clear A380
            replace H := Option.bind_eq_some_iff.mp H
            obtain ⟨t158, A390, H⟩ := H
            replace H : (if t158 = 0 then ((bytes_Reader_Text_nil.f).bind fun t159 => (if t159.toList = ([] : List UInt8) then ((bytes_Reader_Flag_nil.f).bind fun t160 => (if t160 = true then (some false) else ((bytes_Reader_Left_nil.f).bind fun t161 => (if t161 = 0 then ((bytes_Reader_End_nil.f).bind fun t162 => (if t162 = 1 then ((hourglasslaw04_awake.f kj20).bind fun t163 => (some t163)) else (some false))) else (some false))))) else (some false))) else (some false)) = some r := H
            have A39 := Aside0.mk A390
            clear A390
            by_cases c40 : t158 = 0
            · rw [if_pos c40] at H
              have c40b0 : (t158 == 0) = true := beq_iff_eq.mpr c40
              have c40b1 : (t158 != 0) = false := bne_eq_false_iff_eq.mpr c40
              clear c40
              replace H := Option.bind_eq_some_iff.mp H
              obtain ⟨t159, A410, H⟩ := H
              replace H : (if t159.toList = ([] : List UInt8) then ((bytes_Reader_Flag_nil.f).bind fun t160 => (if t160 = true then (some false) else ((bytes_Reader_Left_nil.f).bind fun t161 => (if t161 = 0 then ((bytes_Reader_End_nil.f).bind fun t162 => (if t162 = 1 then ((hourglasslaw04_awake.f kj20).bind fun t163 => (some t163)) else (some false))) else (some false))))) else (some false)) = some r := H
              have A41 := Aside0.mk A410
              clear A410
              by_cases c42 : t159.toList = ([] : List UInt8)
              · rw [if_pos c42] at H
                have c42b0 : (t159.toList == ([] : List UInt8)) = true := beq_iff_eq.mpr c42
                have c42b1 : (t159.toList != ([] : List UInt8)) = false := bne_eq_false_iff_eq.mpr c42
                clear c42
                replace H := Option.bind_eq_some_iff.mp H
                obtain ⟨t160, A430, H⟩ := H
                replace H : (if t160 = true then (some false) else ((bytes_Reader_Left_nil.f).bind fun t161 => (if t161 = 0 then ((bytes_Reader_End_nil.f).bind fun t162 => (if t162 = 1 then ((hourglasslaw04_awake.f kj20).bind fun t163 => (some t163)) else (some false))) else (some false)))) = some r := H
                have A43 := Aside0.mk A430
                clear A430
                by_cases c44 : t160 = true
                · subst c44
                  have H1 : (some false) = some r := by rw [if_pos rfl] at H; exact H
                  clear H
                  have H := H1
                  clear H1
                  exact absurd (Option.some.inj H) (by rw [HRT.out]; decide)
                · replace c44 := Bool.eq_false_iff.mpr c44
                  subst c44
                  have H1 : ((bytes_Reader_Left_nil.f).bind fun t161 => (if t161 = 0 then ((bytes_Reader_End_nil.f).bind fun t162 => (if t162 = 1 then ((hourglasslaw04_awake.f kj20).bind fun t163 => (some t163)) else (some false))) else (some false))) = some r := by rw [if_neg (show ¬ (false = true) by decide)] at H; exact H
                  clear H
                  have H := H1
                  clear H1
                  replace H := Option.bind_eq_some_iff.mp H
                  obtain ⟨t161, A490, H⟩ := H
                  replace H : (if t161 = 0 then ((bytes_Reader_End_nil.f).bind fun t162 => (if t162 = 1 then ((hourglasslaw04_awake.f kj20).bind fun t163 => (some t163)) else (some false))) else (some false)) = some r := H
                  have A49 := Aside0.mk A490
                  clear A490
                  by_cases c50 : t161 = 0
                  · rw [if_pos c50] at H
                    have c50b0 : (t161 == 0) = true := beq_iff_eq.mpr c50
                    have c50b1 : (t161 != 0) = false := bne_eq_false_iff_eq.mpr c50
                    clear c50
                    replace H := Option.bind_eq_some_iff.mp H
                    obtain ⟨t162, A510, H⟩ := H
                    replace H : (if t162 = 1 then ((hourglasslaw04_awake.f kj20).bind fun t163 => (some t163)) else (some false)) = some r := H
                    have A51 := Aside0.mk A510
                    clear A510
                    by_cases c52 : t162 = 1
                    · rw [if_pos c52] at H
                      have c52b0 : (t162 == 1) = true := beq_iff_eq.mpr c52
                      have c52b1 : (t162 != 1) = false := bne_eq_false_iff_eq.mpr c52
                      clear c52
                      replace H := Option.bind_eq_some_iff.mp H
                      obtain ⟨t163, A530, H⟩ := H
                      replace H : (some t163) = some r := H
                      have A53 := Aside0.mk A530
                      clear A530
                      first
                        | exact absurd (Option.some.inj H) (by rw [HRT.out]; decide)
                        | (obtain rfl := Option.some.inj H
                           go_wp2_with (first | ((with_reducible refine gate_callee (f := 29) rfl ?_); refine goesL_ (some 65) rfl rfl Try.func29 (by kernel_rfl) rfl #[.pointer none, .int .i64 5] rfl (by (try simp only [List.map_toArray, List.map_cons, List.map_nil]); first | done | rfl | (simp only [List.length_drop, List.length_take]; rfl)) ?_; (with_reducible refine (bytes_Reader_Fail_nil.calls  5  _ A38.out).mono ?_); rintro e w54 ⟨rfl, hb⟩; refine ⟨_, rfl, ?_⟩; have n0_ := Aside0.mk (below_step (by repeat (first | (with_reducible first | exact HB.out | apply below_alloc | apply pw_below_drewN | apply below_drew1) | exact HB.out)) hb); clear HB; have HB := n0_; clear n0_; (try clear hb); (try clear hb2); (try clear hk); (try clear hi)) | ((with_reducible refine gate_callee (f := 26) rfl ?_); refine goesL_ (some 68) rfl rfl Try.func26 (by kernel_rfl) rfl #[.pointer none, .int .i64 a1] rfl (by (try simp only [List.map_toArray, List.map_cons, List.map_nil]); first | done | rfl | (simp only [List.length_drop, List.length_take]; rfl)) ?_; (with_reducible refine (bytes_Reader_Num_nil.calls  a1 t158 _ A39.out).mono ?_); rintro e w55 ⟨rfl, hb⟩; refine ⟨_, rfl, ?_⟩; have n0_ := Aside0.mk (below_step (by repeat (first | (with_reducible first | exact HB.out | apply below_alloc | apply pw_below_drewN | apply below_drew1) | exact HB.out)) hb); clear HB; have HB := n0_; clear n0_; (try clear hb); (try clear hb2); (try clear hk); (try clear hi)) | (go_at_call 27; (with_reducible refine (bytes_Reader_Text_nil.calls  t159 _ A41.out).mono ?_); rintro e w56 ⟨rfl, hb⟩; have n0_ := Aside0.mk (below_step (by repeat (first | (with_reducible first | exact HB.out | apply below_alloc | apply pw_below_drewN | apply below_drew1) | exact HB.out)) hb); clear HB; have HB := n0_; clear n0_; (try clear hb); (try clear hb2); (try clear hk); (try clear hi)) | (go_at_call 28; (with_reducible refine (bytes_Reader_Flag_nil.calls  false _ A43.out).mono ?_); rintro e w57 ⟨rfl, hb⟩; have n0_ := Aside0.mk (below_step (by repeat (first | (with_reducible first | exact HB.out | apply below_alloc | apply pw_below_drewN | apply below_drew1) | exact HB.out)) hb); clear HB; have HB := n0_; clear n0_; (try clear hb); (try clear hb2); (try clear hk); (try clear hi)) | (go_at_call 22; (with_reducible refine (bytes_Reader_Left_nil.calls  t161 _ A49.out).mono ?_); rintro e w58 ⟨rfl, hb⟩; have n0_ := Aside0.mk (below_step (by repeat (first | (with_reducible first | exact HB.out | apply below_alloc | apply pw_below_drewN | apply below_drew1) | exact HB.out)) hb); clear HB; have HB := n0_; clear n0_; (try clear hb); (try clear hb2); (try clear hk); (try clear hi)) | (go_at_call 24; (with_reducible refine (bytes_Reader_End_nil.calls  t162 _ A51.out).mono ?_); rintro e w59 ⟨rfl, hb⟩; have n0_ := Aside0.mk (below_step (by repeat (first | (with_reducible first | exact HB.out | apply below_alloc | apply pw_below_drewN | apply below_drew1) | exact HB.out)) hb); clear HB; have HB := n0_; clear n0_; (try clear hb); (try clear hb2); (try clear hk); (try clear hi)) | (go_at_call 14; (with_reducible refine (hourglasslaw04_awake.calls kj20  t163 _ A53.out).mono ?_); rintro e w60 ⟨rfl, hb⟩; have n0_ := Aside0.mk (below_step (by repeat (first | (with_reducible first | exact HB.out | apply below_alloc | apply pw_below_drewN | apply below_drew1) | exact HB.out)) hb); clear HB; have HB := n0_; clear n0_; (try clear hb); (try clear hb2); (try clear hk); (try clear hi)))
                           go_ret
                           exact ⟨by first | rfl | (simp [errW_none, errW_some] <;> rfl) | (simp [*, errW_none, errW_some] <;> rfl), by repeat (first | (with_reducible first | exact HB.out | apply below_alloc | apply pw_below_drewN | apply below_drew1) | exact HB.out)⟩)
                    · rw [if_neg c52] at H
                      have c52b0 : (t162 == 1) = false := beq_eq_false_iff_ne.mpr c52
                      have c52b1 : (t162 != 1) = true := bne_iff_ne.mpr c52
                      exact absurd (Option.some.inj H) (by rw [HRT.out]; decide)
                  · rw [if_neg c50] at H
                    have c50b0 : (t161 == 0) = false := beq_eq_false_iff_ne.mpr c50
                    have c50b1 : (t161 != 0) = true := bne_iff_ne.mpr c50
                    exact absurd (Option.some.inj H) (by rw [HRT.out]; decide)
              · rw [if_neg c42] at H
                have c42b0 : (t159.toList == ([] : List UInt8)) = false := beq_eq_false_iff_ne.mpr c42
                have c42b1 : (t159.toList != ([] : List UInt8)) = true := bne_iff_ne.mpr c42
                exact absurd (Option.some.inj H) (by rw [HRT.out]; decide)
            · rw [if_neg c40] at H
              have c40b0 : (t158 == 0) = false := beq_eq_false_iff_ne.mpr c40
              have c40b1 : (t158 != 0) = true := bne_iff_ne.mpr c40
              exact absurd (Option.some.inj H) (by rw [HRT.out]; decide)
/-- THE ONE PURE STATEMENT of hourglasslaw04_BytesOnce: yours. -/
def hourglasslaw04_BytesOnce.Pure : Prop := ∀ (a0 : ByteArray) (a1 : Int), a0.size ≤ 140737488351232 → (Lit.int .i64 a1).wf = true → ∃ k, hourglasslaw04_BytesOnce.f k a0 a1 = some true
theorem hourglasslaw04_BytesOnce.walk (P : hourglasslaw04_BytesOnce.Pure) (a0 : ByteArray) (a1 : Int) (w : World) (w0 : a0.size ≤ 140737488351232) (w1 : (Lit.int .i64 a1).wf = true) :
    Calls Try.prog 6 #[.string a0, .int .i64 a1] w fun e w' => e = .returned (.bool true) ∧ Below w.heap.size w w' := by
  obtain ⟨k, h⟩ := P a0 a1 w0 w1
  refine (hourglasslaw04_BytesOnce.calls k a0 a1 true w h rfl).mono ?_
  rintro e w' ⟨rfl, hd⟩
  exact ⟨rfl, hd⟩

end Go.Proofs.Ytijohhdgecadnaa.FBytesOnce
