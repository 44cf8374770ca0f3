
/- Contract: an event's line, and the example of law 25. No condition but that numbers are of 64 bits. -/
import Derived.Test.YtcihkmnolagdlaaDoorSp1
import Derived.Test.YtcihkmnolagdlaaDoorCn0
import Derived.Test.YtcihkmnolagdlaaDoorSp21
import Derived.Test.YtcihkmnolagdlaaDoorCn98
import Derived.Test.YtcihkmnolagdlaaDoorCn104
import Derived.Test.YtcihkmnolagdlaaDoorProg
import Derived.KernelRfl
import Derived.Test.YtcihkmnolagdlaaDoorAv18
namespace Go.Proofs.YtcihkmnolagdlaaDoor.Cn
open Go Go.Proofs Go.Proofs.YtcihkmnolagdlaaDoor.Av Go.Proofs.YtcihkmnolagdlaaDoor.Sp
set_option linter.unusedVariables false
set_option linter.unusedSimpArgs false
set_option linter.unusedSectionVars false
set_option maxRecDepth 100000
attribute [local irreducible] Fv Fp

def evN (k : Nat) : ByteArray := match evNames[k]? with
  | some [.str s] => s
  | _ => ⟨#[63]⟩
def nameB (k : Int) : ByteArray := if 1 ≤ k ∧ k ≤ 11 then evN k.toNat else ⟨#[63]⟩
theorem evN_at {k : Nat} (h : k < 12) : evNames[k]? = some [.str (evN k)] := by
  match k, h with
  | 0, _ => rfl
  | 1, _ => rfl
  | 2, _ => rfl
  | 3, _ => rfl
  | 4, _ => rfl
  | 5, _ => rfl
  | 6, _ => rfl
  | 7, _ => rfl
  | 8, _ => rfl
  | 9, _ => rfl
  | 10, _ => rfl
  | 11, _ => rfl
theorem evN_size {k : Nat} (h : k < 12) : (evN k).size ≤ 9 := by
  match k, h with
  | 0, _ => decide
  | 1, _ => decide
  | 2, _ => decide
  | 3, _ => decide
  | 4, _ => decide
  | 5, _ => decide
  | 6, _ => decide
  | 7, _ => decide
  | 8, _ => decide
  | 9, _ => decide
  | 10, _ => decide
  | 11, _ => decide
theorem nameB_size (k : Int) : (nameB k).size ≤ 9 := by
  unfold nameB
  split
  · exact evN_size (by omega)
  · decide
theorem name_at (k : Int) (s : ByteArray) (h1 : 1 ≤ k ∧ k ≤ 11) (f1 : 0 ≤ k ∧ evNames[k.toNat]? = some [.str s]) : Nm k s := by
  have b1 : decide (k < 1) = false := decide_eq_false (by omega)
  have b2 : decide (k > 11) = false := decide_eq_false (by omega)
  have n1 := ev_names
  unfold Nm
  refine Fv.of_awp Tryd.func17 rfl (by kernel_rfl) rfl (Nat.le_of_ble_eq_true rfl) ?_
  repeat' (conv => whnf
           first
           | (refine And.intro (by kernel_rfl) ?_)
           | (refine And.intro ⟨by kernel_rfl, by kernel_rfl⟩ ?_)
           | (refine cond_0 b1 ?_)
           | (refine cond_0 b2 ?_)
           | (refine Or.inl ⟨_, n1, ?_⟩)
           | (refine ⟨_, n1, ?_⟩)
           | (refine ⟨_, f1, ?_⟩)
           | (refine cond_f ?_ ?_)
           | (refine ⟨_, ⟨by decide, rfl⟩, ?_⟩)
           | (refine cond_i (fun h => ?_) (fun h => ?_)))
  all_goals (conv => whnf)
  all_goals rfl
theorem name_out (k : Int) (h1 : ¬ (1 ≤ k ∧ k ≤ 11)) : Nm k ⟨#[63]⟩ := by
  unfold Nm
  by_cases h2 : k < 1
  · have b1 : decide (k < 1) = true := decide_eq_true h2
    refine Fv.of_awp Tryd.func17 rfl (by kernel_rfl) rfl (Nat.le_of_ble_eq_true rfl) ?_
    repeat' (conv => whnf
             first
             | (refine And.intro (by kernel_rfl) ?_)
             | (refine And.intro ⟨by kernel_rfl, by kernel_rfl⟩ ?_)
             | (refine cond_1 b1 ?_)
             | (refine cond_f ?_ ?_)
             | (refine ⟨_, ⟨by decide, rfl⟩, ?_⟩)
             | (refine cond_i (fun h => ?_) (fun h => ?_)))
    all_goals (conv => whnf)
    all_goals rfl
  · have b1 : decide (k < 1) = false := decide_eq_false h2
    have b2 : decide (k > 11) = true := decide_eq_true (by omega)
    refine Fv.of_awp Tryd.func17 rfl (by kernel_rfl) rfl (Nat.le_of_ble_eq_true rfl) ?_
    repeat' (conv => whnf
             first
             | (refine And.intro (by kernel_rfl) ?_)
             | (refine And.intro ⟨by kernel_rfl, by kernel_rfl⟩ ?_)
             | (refine cond_0 b1 ?_)
             | (refine cond_1 b2 ?_)
             | (refine cond_f ?_ ?_)
             | (refine ⟨_, ⟨by decide, rfl⟩, ?_⟩)
             | (refine cond_i (fun h => ?_) (fun h => ?_)))
    all_goals (conv => whnf)
    all_goals rfl
theorem ev_Name (k : Int) : Nm k (nameB k) := by
  unfold nameB
  by_cases h : 1 ≤ k ∧ k ≤ 11
  · rw [if_pos h]; exact name_at k _ h ⟨by omega, evN_at (by omega)⟩
  · rw [if_neg h]; exact name_out k h
/-- What a line is made of. -/
def tailE (e : Ev) : List ByteArray :=
  if e.kind = 9 then [] else keyB e.key ::
    (if e.kind = 2 ∨ e.kind = 3 then [⟨#[98, 121]⟩, keyB e.parent, ⟨#[117, 110, 100, 101, 114]⟩, idB e.root, ⟨#[104, 111, 112]⟩, itB e.hop]
     else if e.kind = 5 ∨ e.kind = 6 ∨ e.kind = 7 then [⟨#[99, 111, 100, 101]⟩, itB e.code, ⟨#[118, 97, 108, 117, 101]⟩, itB e.value]
     else if e.kind = 1 ∨ e.kind = 10 then [⟨#[118, 97, 108, 117, 101]⟩, itB e.value] else [])
def partsE (e : Ev) : List ByteArray := [itB e.real, nameB e.kind, ⟨#[97, 116]⟩, itB e.node, itB e.loc] ++ tailE e
def joinL (l : List ByteArray) : List UInt8 := Lib.join (l.map (·.data.toList)) [32]
def lineE (e : Ev) : ByteArray := ⟨(joinL (partsE e)).toArray⟩
def okEv (e : Ev) : Prop := (i64 e.real ∧ i64 e.node ∧ i64 e.loc) ∧ okKey e.key ∧ okKey e.parent ∧ okId e.root ∧ i64 e.hop ∧ i64 e.code ∧ i64 e.value
theorem joinL_len : ∀ (l : List ByteArray), (∀ x ∈ l, x.size ≤ 83) → (joinL l).length ≤ 84 * l.length
  | [], _ => by simp [joinL, Lib.join_nil]
  | x :: l, h => by
    have hx := h x (by simp)
    have tl : ∀ m : List ByteArray, (∀ x ∈ m, x.size ≤ 83) → (Lib.joinTail [32] (m.map (·.data.toList))).length ≤ 84 * m.length := by
      intro m
      induction m with
      | nil => intro _; simp [Lib.joinTail]
      | cons y m ih =>
        intro hm
        have hy := hm y (by simp)
        have := ih (fun z hz => hm z (by simp [hz]))
        have hs : y.data.toList.length = y.size := by simp
        simp only [Lib.joinTail, List.map_cons, List.flatten_cons, List.length_append, List.length_cons, List.length_nil] at this ⊢
        omega
    have := tl l (fun z hz => h z (by simp [hz]))
    have hs : x.data.toList.length = x.size := by simp
    simp only [joinL, List.map_cons, Lib.join_cons, List.length_append, List.length_cons] at this ⊢
    omega
theorem jn_of (x : ByteArray) (l : List ByteArray) (h : ∀ y ∈ x :: l, y.size ≤ 83) (hl : (x :: l).length ≤ 20) : Jn (x :: l) ⟨(joinL (x :: l)).toArray⟩ := by
  have := joinL_len (x :: l) h
  unfold Jn
  exact ev_Join x l ⟨#[32]⟩ (by omega) (by show (joinL (x :: l)).length ≤ _; omega)
theorem ev_Line (e : Ev) (h : okEv e) : Fv Tryd.prog 39 [.agg e.g] (.str (lineE e)) := by
  obtain ⟨⟨o1, o2, o3⟩, o4, o5, o6, o7, o8, o9⟩ := h
  have s1 := itB_size o1; have s2 := itB_size o2; have s3 := itB_size o3; have s4 := keyB_size o4; have s5 := keyB_size o5; have s6 := idB_size o6; have s7 := itB_size o7; have s8 := itB_size o8; have s9 := itB_size o9
  have s0 := nameB_size e.kind
  have n1 : It _ _ := it_Itoa _ o1
  have n2 := ev_Name e.kind
  have n3 : It _ _ := it_Itoa _ o2
  have n4 : It _ _ := it_Itoa _ o3
  have n5 : Kt _ _ := ident_KeyText _ o4
  have m1 : Kt _ _ := ident_KeyText _ o5
  have m2 := ident_Text _ o6
  have m3 : It _ _ := it_Itoa _ o7
  have m4 : It _ _ := it_Itoa _ o8
  have m5 : It _ _ := it_Itoa _ o9
  have all : ∀ y ∈ partsE e, y.size ≤ 83 := fun y hy => by
    have z1 : (⟨#[97, 116]⟩ : ByteArray).size = 2 := rfl
    have z2 : (⟨#[98, 121]⟩ : ByteArray).size = 2 := rfl
    have z3 : (⟨#[117, 110, 100, 101, 114]⟩ : ByteArray).size = 5 := rfl
    have z4 : (⟨#[104, 111, 112]⟩ : ByteArray).size = 3 := rfl
    have z5 : (⟨#[99, 111, 100, 101]⟩ : ByteArray).size = 4 := rfl
    have z6 : (⟨#[118, 97, 108, 117, 101]⟩ : ByteArray).size = 5 := rfl
    unfold partsE tailE at hy
    (repeat' split at hy) <;> simp only [List.mem_append, List.mem_cons, List.not_mem_nil, or_false] at hy <;> (rcases hy with (rfl | rfl | rfl | rfl | rfl) | hy) <;> (try omega) <;> (try (rcases hy with rfl | hy)) <;> (try omega) <;>
      (try (rcases hy with rfl | rfl | rfl | rfl | rfl | rfl)) <;> (try omega) <;> (try (rcases hy with rfl | rfl | rfl | rfl)) <;> (try omega) <;> (try (rcases hy with rfl | rfl)) <;> (try omega)
  have hlen : (partsE e).length ≤ 20 := by unfold partsE tailE; (repeat' split) <;> simp
  have hJ : Jn (partsE e) (lineE e) := jn_of _ _ all hlen
  obtain ⟨kind, real, node, loc, key, parent, root, hop, code, value⟩ := e
  unfold partsE tailE at hJ
  simp only at *
  by_cases h9 : kind = 9
  · subst h9; exact line_9 _ _ _ _ _ _ _ _ _ _ _ _ _ _ n1 n2 n3 n4 hJ
  rw [if_neg h9] at hJ
  by_cases h2 : kind = 2
  · subst h2; exact line_2 _ _ _ _ _ _ _ _ _ _ _ _ _ _ _ _ _ _ n1 n2 n3 n4 n5 m1 m2 m3 hJ
  by_cases h3 : kind = 3
  · subst h3; exact line_3 _ _ _ _ _ _ _ _ _ _ _ _ _ _ _ _ _ _ n1 n2 n3 n4 n5 m1 m2 m3 hJ
  rw [if_neg (by omega)] at hJ
  by_cases h5 : kind = 5
  · subst h5; exact line_5 _ _ _ _ _ _ _ _ _ _ _ _ _ _ _ _ _ n1 n2 n3 n4 n5 m4 m5 hJ
  by_cases h6 : kind = 6
  · subst h6; exact line_6 _ _ _ _ _ _ _ _ _ _ _ _ _ _ _ _ _ n1 n2 n3 n4 n5 m4 m5 hJ
  by_cases h7 : kind = 7
  · subst h7; exact line_7 _ _ _ _ _ _ _ _ _ _ _ _ _ _ _ _ _ n1 n2 n3 n4 n5 m4 m5 hJ
  rw [if_neg (by omega)] at hJ
  by_cases h1 : kind = 1
  · subst h1; exact line_1 _ _ _ _ _ _ _ _ _ _ _ _ _ _ _ _ n1 n2 n3 n4 n5 m5 hJ
  by_cases h10 : kind = 10
  · subst h10; exact line_10 _ _ _ _ _ _ _ _ _ _ _ _ _ _ _ _ n1 n2 n3 n4 n5 m5 hJ
  rw [if_neg (by omega)] at hJ
  exact line_o _ _ _ _ _ _ _ _ _ _ _ _ _ _ _ _ n1 n2 n3 n4 n5 hJ (by simpa using h9) (by simpa using h2) (by simpa using h3) (by simpa using h5) (by simpa using h7) (by simpa using h6) (by simpa using h1) (by simpa using h10)
theorem lineE_size {e : Ev} (h : okEv e) : (lineE e).size ≤ 1100 := by
  obtain ⟨⟨o1, o2, o3⟩, o4, o5, o6, o7, o8, o9⟩ := h
  have s1 := itB_size o1; have s2 := itB_size o2; have s3 := itB_size o3; have s4 := keyB_size o4; have s5 := keyB_size o5; have s6 := idB_size o6; have s7 := itB_size o7; have s8 := itB_size o8; have s9 := itB_size o9
  have s0 := nameB_size e.kind
  have all : ∀ y ∈ partsE e, y.size ≤ 83 := fun y hy => by
    have z1 : (⟨#[97, 116]⟩ : ByteArray).size = 2 := rfl
    have z2 : (⟨#[98, 121]⟩ : ByteArray).size = 2 := rfl
    have z3 : (⟨#[117, 110, 100, 101, 114]⟩ : ByteArray).size = 5 := rfl
    have z4 : (⟨#[104, 111, 112]⟩ : ByteArray).size = 3 := rfl
    have z5 : (⟨#[99, 111, 100, 101]⟩ : ByteArray).size = 4 := rfl
    have z6 : (⟨#[118, 97, 108, 117, 101]⟩ : ByteArray).size = 5 := rfl
    unfold partsE tailE at hy
    (repeat' split at hy) <;> simp only [List.mem_append, List.mem_cons, List.not_mem_nil, or_false] at hy <;> (rcases hy with (rfl | rfl | rfl | rfl | rfl) | hy) <;> (try omega) <;> (try (rcases hy with rfl | hy)) <;> (try omega) <;>
      (try (rcases hy with rfl | rfl | rfl | rfl | rfl | rfl)) <;> (try omega) <;> (try (rcases hy with rfl | rfl | rfl | rfl)) <;> (try omega) <;> (try (rcases hy with rfl | rfl)) <;> (try omega)
  have h1 := joinL_len (partsE e) all
  have h2 : (partsE e).length ≤ 12 := by unfold partsE tailE; (repeat' split) <;> simp
  show (joinL (partsE e)).toArray.size ≤ 1100
  rw [List.size_toArray]; omega
theorem itoa_small (n : Nat) (h : n < 10) : Lib.itoa (n : Int) = [UInt8.ofNat (48 + n)] := by
  unfold Lib.itoa
  rw [if_neg (by omega)]
  show Lib.decDigits n = _
  rw [Lib.decDigits, dif_pos h]
theorem ok_exEv : okEv exEv := by unfold okEv okKey okId i64 exEv; decide
theorem line_exEv : lineE exEv = lineB := by
  have e1 : itB exEv.real = ⟨#[55]⟩ := by show strL' (Lib.itoa ((7 : Nat) : Int)) = _; rw [itoa_small 7 (by omega)]; rfl
  have e2 : itB exEv.node = ⟨#[50]⟩ := by show strL' (Lib.itoa ((2 : Nat) : Int)) = _; rw [itoa_small 2 (by omega)]; rfl
  have e3 : itB exEv.loc = ⟨#[57]⟩ := by show strL' (Lib.itoa ((9 : Nat) : Int)) = _; rw [itoa_small 9 (by omega)]; rfl
  unfold lineE partsE
  rw [e1, e2, e3]
  rfl
theorem law25_awake : Fv Tryd.prog 10 [] (.bool true) :=
  awake_of lineB exEv.g (strEq_self _) (by rw [← line_exEv]; exact ev_Line exEv ok_exEv) (ev_Of [exEv] 9 (by decide))
end Go.Proofs.YtcihkmnolagdlaaDoor.Cn
