
/- Law 25: those of a kind and of an attempt, either way; two texts, one behind the other. No condition but that numbers are of 64 bits. -/
import Derived.Test.YtcihkmnolagdlaaDoorSp1
import Derived.Test.YtcihkmnolagdlaaDoorCn0
import Derived.Test.YtcihkmnolagdlaaDoorSp21
import Derived.Test.YtcihkmnolagdlaaDoorCn100
import Derived.Test.YtcihkmnolagdlaaDoorCn102
import Derived.Test.YtcihkmnolagdlaaDoorCn103
import Derived.Test.YtcihkmnolagdlaaDoorCn105
import Derived.Test.YtcihkmnolagdlaaDoorProg
import Derived.KernelRfl
import Derived.Test.YtcihkmnolagdlaaDoorAv18
namespace Go.Proofs.YtcihkmnolagdlaaDoor.Cn
open Go Go.Proofs Go.Proofs.YtcihkmnolagdlaaDoor.Av Go.Proofs.YtcihkmnolagdlaaDoor.Sp
set_option linter.unusedVariables false
set_option linter.unusedSimpArgs false
set_option linter.unusedSectionVars false
set_option maxRecDepth 100000
attribute [local irreducible] Fv Fp

def w3 (x : Int) : Prop := (Lit.int .i64 x).wf = true
def wId (x : Sp.Id) : Prop := w3 x.node ∧ w3 x.inc ∧ w3 x.seq
def wKey (x : Sp.Key) : Prop := wId x.id ∧ w3 x.att
def wEv (x : Sp.Ev) : Prop := w3 x.kind ∧ w3 x.real ∧ w3 x.node ∧ w3 x.loc ∧ wKey x.key ∧ wKey x.parent ∧ wId x.root ∧ w3 x.hop ∧ w3 x.code ∧ w3 x.value
theorem wId_ok {x : Sp.Id} (h : wId x) : okId x := ⟨wf_i64 h.1, wf_i64 h.2.1, wf_i64 h.2.2⟩
theorem wKey_ok {x : Sp.Key} (h : wKey x) : okKey x := ⟨wId_ok h.1, wf_i64 h.2⟩
theorem ok_wf (l : List Ev) (h : ∀ y ∈ l, wEv y) : ∀ e ∈ l, okEv e := fun e he => by
  obtain ⟨a, b, c, d, p, q, r, s, t, u⟩ := h e he
  exact ⟨⟨wf_i64 b, wf_i64 c, wf_i64 d⟩, wKey_ok p, wKey_ok q, wId_ok r, wf_i64 s, wf_i64 t, wf_i64 u⟩
theorem text_le : ∀ (l : List Ev), (∀ e ∈ l, okEv e) → (textL lineE l).length ≤ 1101 * l.length
  | [], _ => by simp [textL]
  | e :: l, h => by
    have h1 := lineE_size (h e (by simp))
    have h2 := text_le l (fun e he => h e (by simp [he]))
    unfold textL at h2 ⊢
    rw [List.flatMap_cons, List.length_append, size_list, ByteArray.size_append, List.length_cons]
    have z : (⟨#[10]⟩ : ByteArray).size = 1 := rfl
    omega
theorem text_of (l : List Ev) (hl : l.length ≤ 200) (h : ∀ e ∈ l, okEv e) : Fv Tryd.prog 14 [.sl (l.map Ev.g)] (.str (strL (textL lineE l))) :=
  ev_Text lineE l (fun e he => ev_Line e (h e he)) (by have := text_le l h; omega) (by omega)
theorem both_eq (l m : List Ev) : (((((l.map Ev.g).drop 0).take (l.map Ev.g).length ++ m.map Ev.g).drop 0).take ((l.map Ev.g).length + (m.map Ev.g).length)) = (l ++ m).map Ev.g := by
  rw [List.drop_zero, List.drop_zero, List.take_length, List.map_append]
  exact List.take_of_length_le (by simp)
theorem evOkRows (l : List Ev) : okRows (Tryd.prog.cellsOf 30) (l.map Ev.g) = true := ok_map 18 (by kernel_rfl) (fun _ => rfl) (fun _ => rfl)
theorem ev_ap2 {l m : List Ev} (h : l.length + m.length ≤ 1000) : 0 + (l.map Ev.g).length ≤ (l.map Ev.g).length ∧ (0 < (l.map Ev.g).length + (m.map Ev.g).length ∨ l.map Ev.g = []) ∧ fitsB Tryd.prog 30 ((l.map Ev.g).length + (m.map Ev.g).length) ∧
    ∀ r ∈ l.map Ev.g, r.length = Tryd.prog.cellsOf 30 := by
  refine ⟨by omega, ?_, fits 144 (by kernel_rfl) (by simp only [List.length_map]; omega), ev_len⟩
  cases l with
  | nil => exact .inr rfl
  | cons e l => exact .inl (by simp only [List.map_cons, List.length_cons]; omega)
theorem strL_size (l : List UInt8) : (strL l).size = l.length := by show l.toArray.size = _; simp
theorem text_app (l m : List Ev) : strEq (strL (textL lineE (l ++ m))) (strL (textL lineE l) ++ strL (textL lineE m)) = true := by
  have e : strL (textL lineE (l ++ m)) = strL (textL lineE l) ++ strL (textL lineE m) := by
    unfold textL strL
    rw [List.flatMap_append]
    apply ByteArray.ext
    apply Array.toList_inj.1
    simp
  rw [e]; exact strEq_self _
set_option maxHeartbeats 8000000 in
theorem law25_EventCommutes (l m : List Ev) (kind : Int) (k : Sp.Key) (h1 : ∀ e ∈ l, okEv e) (h2 : ∀ e ∈ m, okEv e) : Fv Tryd.prog 4 [.sl (l.map Ev.g), .sl (m.map Ev.g), .int .i64 kind, .agg k.g] (.bool true) := by
  have aw := law25_awake
  refine Fv.of_awp Tryd.func4 rfl (by kernel_rfl) rfl (Nat.le_of_ble_eq_true rfl) ?_
  by_cases hl : l.length > 60
  · have b1 : decide (((l.map Ev.g).length : Int) > 60) = true := decide_eq_true (by rw [List.length_map]; omega)
    repeat' (conv => whnf
             first
             | (refine And.intro (by kernel_rfl) ?_)
             | (refine And.intro ⟨by kernel_rfl, by kernel_rfl⟩ ?_)
             | (refine cond_1 b1 ?_)
             | (refine Or.inl ⟨_, aw, ?_⟩)
             | (refine ⟨_, aw, ?_⟩)
             | (refine cond_f ?_ ?_)
             | (refine ⟨_, ⟨by decide, rfl⟩, ?_⟩)
             | (refine cond_i (fun h => ?_) (fun h => ?_)))
    all_goals (conv => whnf)
    all_goals rfl
  have b1 : decide (((l.map Ev.g).length : Int) > 60) = false := decide_eq_false (by rw [List.length_map]; omega)
  by_cases hm : m.length > 60
  · have b2 : decide (((m.map Ev.g).length : Int) > 60) = true := decide_eq_true (by rw [List.length_map]; omega)
    repeat' (conv => whnf
             first
             | (refine And.intro (by kernel_rfl) ?_)
             | (refine And.intro ⟨by kernel_rfl, by kernel_rfl⟩ ?_)
             | (refine cond_0 b1 ?_)
             | (refine cond_1 b2 ?_)
             | (refine Or.inl ⟨_, aw, ?_⟩)
             | (refine ⟨_, aw, ?_⟩)
             | (refine cond_f ?_ ?_)
             | (refine ⟨_, ⟨by decide, rfl⟩, ?_⟩)
             | (refine cond_i (fun h => ?_) (fun h => ?_)))
    all_goals (conv => whnf)
    all_goals rfl
  have b2 : decide (((m.map Ev.g).length : Int) > 60) = false := decide_eq_false (by rw [List.length_map]; omega)
  have n1 := ev_Key l k (by omega)
  have n2 := ev_Of (l.filter fun e => keyP k e) kind (by have := List.length_filter_le (fun e => keyP k e) l; omega)
  have n3 := ev_Of l kind (by omega)
  have n4 := ev_Key (l.filter fun e => e.kind == kind) k (by have := List.length_filter_le (fun e : Ev => e.kind == kind) l; omega)
  have e4 : ((l.filter fun e => e.kind == kind).filter fun e => keyP k e) = ((l.filter fun e => keyP k e).filter fun e => e.kind == kind) := by
    rw [List.filter_filter, List.filter_filter]; congr 1; funext e; exact Bool.and_comm _ _
  rw [e4] at n4
  have n5 := ref25_Same ((l.filter fun e => keyP k e).filter fun e => e.kind == kind) (by
    have q1 := List.length_filter_le (fun e => keyP k e) l
    have q2 := List.length_filter_le (fun e : Ev => e.kind == kind) (l.filter fun e => keyP k e)
    omega)
  have n6 := text_of (l ++ m) (by rw [List.length_append]; omega) (fun e he => by rcases List.mem_append.1 he with he | he; exact h1 e he; exact h2 e he)
  have n7 := text_of l (by omega) h1
  have n8 := text_of m (by omega) h2
  have e9 := text_app l m
  have z1 : (((strL (textL lineE l)).size + (strL (textL lineE m)).size : Nat) : Int) ≤ 9223372036854775807 := by
    have q1 := text_le l h1; have q2 := text_le m h2
    rw [strL_size, strL_size]; omega
  rw [← both_eq] at n6
  have o1 := evOkRows l
  have o2 := evOkRows m
  have f1 : (2 * (l.map Ev.g).length + 1024) * 144 ≤ 281474976710656 := by rw [List.length_map]; omega
  have f2 := ev_ap2 (l := l) (m := m) (by omega)
  have f3 : 0 + ((l.map Ev.g).length + (m.map Ev.g).length) ≤ (((l.map Ev.g).drop 0).take (l.map Ev.g).length ++ m.map Ev.g).length := by simp
  repeat' (conv => whnf
           first
           | (refine And.intro (by kernel_rfl) ?_)
           | (refine And.intro ⟨by kernel_rfl, by kernel_rfl⟩ ?_)
           | (refine cond_0 b1 ?_)
           | (refine cond_0 b2 ?_)
           | (refine cond_1 o1 ?_)
           | (refine cond_1 o2 ?_)
           | (refine ⟨fits 144 (by kernel_rfl) f1, ?_⟩)
           | (refine ⟨f2, ?_⟩)
           | (refine Or.inl ⟨_, n1, ?_⟩)
           | (refine ⟨_, n1, ?_⟩)
           | (refine Or.inl ⟨_, n2, ?_⟩)
           | (refine ⟨_, n2, ?_⟩)
           | (refine Or.inl ⟨_, n3, ?_⟩)
           | (refine ⟨_, n3, ?_⟩)
           | (refine Or.inl ⟨_, n4, ?_⟩)
           | (refine ⟨_, n4, ?_⟩)
           | (refine Or.inl ⟨_, n5, ?_⟩)
           | (refine ⟨_, n5, ?_⟩)
           | (refine Or.inl ⟨_, n7, ?_⟩)
           | (refine ⟨_, n7, ?_⟩)
           | (refine Or.inl ⟨_, n8, ?_⟩)
           | (refine ⟨_, n8, ?_⟩)
           | (refine Or.inl ?_)
           | (refine ⟨f3, ?_⟩)
           | (refine Or.inl ⟨_, n6, ?_⟩)
           | (refine ⟨_, n6, ?_⟩)
           | (refine ⟨z1, ?_⟩)
           | (refine cond_1 e9 ?_)
           | (refine Or.inl ⟨_, aw, ?_⟩)
           | (refine ⟨_, aw, ?_⟩)
           | (refine cond_f ?_ ?_)
           | (refine ⟨_, ⟨by decide, rfl⟩, ?_⟩)
           | (refine cond_i (fun h => ?_) (fun h => ?_)))
  all_goals (conv => whnf)
  all_goals rfl
end Go.Proofs.YtcihkmnolagdlaaDoor.Cn
