
/- Contracts: numbers as text, texts joined (out of the shelf); an event's line. No condition but that numbers are of 64 bits. -/
import Derived.Test.YtcihkmnolagdlaaDoorSp1
import Derived.Test.YtcihkmnolagdlaaDoorCn0
import Derived.Test.YtcihkmnolagdlaaDoorSh
import Derived.Test.YtcihkmnolagdlaaDoorSp21
import Derived.Test.YtcihkmnolagdlaaDoorCn95
import Derived.Test.YtcihkmnolagdlaaDoorProg
import Derived.KernelRfl
import Derived.Test.YtcihkmnolagdlaaDoorAv17
import Derived.Test.YtcihkmnolagdlaaDoorAv18
namespace Go.Proofs.YtcihkmnolagdlaaDoor.Cn
open Go Go.Proofs Go.Proofs.YtcihkmnolagdlaaDoor.Av Go.Proofs.YtcihkmnolagdlaaDoor.Sp
set_option linter.unusedVariables false
set_option linter.unusedSimpArgs false
set_option linter.unusedSectionVars false
set_option maxRecDepth 100000

def strL' (l : List UInt8) : ByteArray := ⟨l.toArray⟩
theorem tab_of1 {w : World} {ex : Nat → Prop} (h : Fixed w ex) : Lib.TabIs Tryd.prog w "internal/strconv.uint64pow10" .u64 Lib.pow10Tab := by
  obtain ⟨_, _, T, fz, h3⟩ := h (1, _) (List.mem_singleton.2 rfl)
  unfold Lib.TabIs World.var?
  rw [show Tryd.prog.globalNamed "internal/strconv.uint64pow10" = some 1 from by kernel_rfl]
  simp only [Option.bind_some]
  rw [h3]
  rfl
theorem ev_Itoa (n : Int) (h : -9223372036854775808 ≤ n ∧ n ≤ 9223372036854775807) : Fv Tryd.prog 53 [.int .i64 n] (.str (strL' (Lib.itoa n))) := by
  refine Fv.of_calls (by kernel_rfl) fun C w vs hl hr hfx => ?_
  match vs, hl with
  | [v], _ =>
    obtain rfl := (hr 0 _ v rfl rfl).int_inv
    exact (Tryd.strconv_Itoa n h.1 h.2 w (tab_of1 hfx)).mono fun e w' ⟨he, k, os, hw⟩ => ⟨_, he, .str _, by rw [hw]; exact below_grown w k os⟩
def strG' (s : ByteArray) : List G := [.str s]
theorem ev_Join (x : ByteArray) (xs : List ByteArray) (sep : ByteArray) (hN : (x :: xs).length ≤ 140737488355328) (hl : (Lib.join ((x :: xs).map (·.data.toList)) sep.data.toList).length ≤ 140737488355328) :
    Fv Tryd.prog 57 [.sl ((x :: xs).map strG'), .str sep] (.str ⟨(Lib.join ((x :: xs).map (·.data.toList)) sep.data.toList).toArray⟩) := by
  refine Fv.of_calls (by kernel_rfl) fun C w vs hlv hr hfx => ?_
  match vs, hlv with
  | [v, u], _ =>
    have hu := hr 1 _ u rfl rfl
    cases hu
    have hv := hr 0 _ v rfl rfl
    generalize hys : (x :: xs).map strG' = ys at hv
    have hyl : ys.length = (x :: xs).length := by rw [← hys, List.length_map]
    cases hv with
    | slnil => simp at hys
    | sl _ A cap sz f ha hlt hex hcap hsz hcl hcell hrep =>
      obtain ⟨ab, ao, asp⟩ := A
      simp only at ha; subst ha
      have hs1 : sz = 1 := by
        have := hsz (strG' x) (by rw [← hys]; simp)
        exact this.symm
      subst hs1
      have := Tryd.strings_Join ab ao cap (x :: xs) sep w (fun j y hj => by
        have h1 : ys[j]? = some (strG' y) := by rw [← hys, List.getElem?_map, hj]; rfl
        have h2 := hcell j _ 0 _ h1 rfl
        have h3 := hrep j _ 0 _ h1 rfl
        simp only [Nat.mul_one, Nat.add_zero] at h2
        rw [h2]
        generalize f j 0 = u at h3
        cases h3; rfl) hlt hN (by rw [← hyl]; exact hcap) hl
      rw [hyl]
      exact this.mono fun e w' ⟨he, hw⟩ => ⟨_, he, .str _, hw⟩
attribute [local irreducible] Fv Fp
def evNames : List (List G) := [[.str ⟨#[63]⟩], [.str ⟨#[105, 115, 115, 117, 101, 100]⟩], [.str ⟨#[115, 101, 110, 116]⟩], [.str ⟨#[115, 116, 97, 114, 116, 101, 100]⟩], [.str ⟨#[119, 111, 114, 107, 101, 100]⟩], [.str ⟨#[115, 116, 111, 112, 112, 101, 100]⟩], [.str ⟨#[114, 101, 112, 108, 105, 101, 100]⟩], [.str ⟨#[101, 110, 100, 101, 100]⟩], [.str ⟨#[99, 97, 110, 99, 101, 108, 108, 101, 100]⟩], [.str ⟨#[99, 114, 97, 115, 104, 101, 100]⟩], [.str ⟨#[112, 117, 115, 104, 101, 100]⟩], [.str ⟨#[99, 111, 109, 109, 105, 116, 116, 101, 100]⟩]]
theorem ev_names : Fv Tryd.prog 46 [] (.sl evNames) := by
  refine Fv.of_awp Tryd.func46 rfl (by kernel_rfl) rfl (Nat.le_of_ble_eq_true rfl) ?_
  repeat' (conv => whnf
           first
           | (refine And.intro (by kernel_rfl) ?_)
           | (refine And.intro ⟨by kernel_rfl, by kernel_rfl⟩ ?_)
           | (refine cond_f ?_ ?_)
           | (refine ⟨_, ⟨by decide, rfl⟩, ?_⟩)
           | (refine cond_i (fun h => ?_) (fun h => ?_)))
  all_goals (conv => whnf)
  all_goals rfl
theorem ev_Name9 : Fv Tryd.prog 17 [.int .i64 9] (.str ⟨#[99, 114, 97, 115, 104, 101, 100]⟩) := by
  have f1 : (0 : Int) ≤ 9 ∧ evNames[(9 : Int).toNat]? = some [.str ⟨#[99, 114, 97, 115, 104, 101, 100]⟩] := ⟨by decide, rfl⟩
  refine Fv.of_awp Tryd.func17 rfl (by kernel_rfl) rfl (Nat.le_of_ble_eq_true rfl) ?_
  repeat' (conv => whnf
           first
           | (refine And.intro (by kernel_rfl) ?_)
           | (refine And.intro ⟨by kernel_rfl, by kernel_rfl⟩ ?_)
           | (refine Or.inl ⟨_, ev_names, ?_⟩)
           | (refine ⟨_, ev_names, ?_⟩)
           | (refine ⟨_, f1, ?_⟩)
           | (refine cond_f ?_ ?_)
           | (refine ⟨_, ⟨by decide, rfl⟩, ?_⟩)
           | (refine cond_i (fun h => ?_) (fun h => ?_)))
  all_goals (conv => whnf)
  all_goals rfl
theorem of_le {l : List Ev} {k : Int} : 0 + (l.filter fun e => e.kind == k).length ≤ ((l.filter fun e => e.kind == k).map Ev.g ++ List.replicate (l.length - (l.filter fun e => e.kind == k).length) zEv).length := by simp
theorem of_all {l : List Ev} {k : Int} : (((l.filter fun e => e.kind == k).map Ev.g ++ List.replicate (l.length - (l.filter fun e => e.kind == k).length) zEv).drop 0).take (l.filter fun e => e.kind == k).length = (l.filter fun e => e.kind == k).map Ev.g := by
  rw [List.drop_zero]; exact List.take_left' (by simp)
theorem ev_Of (l : List Ev) (k : Int) (hs : l.length ≤ 1000) : Fv Tryd.prog 11 [.sl (l.map Ev.g), .int .i64 k] (.sl ((l.filter fun e => e.kind == k).map Ev.g)) := by
  have n1 := ev_Clone l hs
  have n2 : Fp Tryd.prog 40 [.own 0 0 l.length, .fn 42 [.ptr 0 0]] [[.int .i64 k]] [l.map Ev.g]
    (.own 0 0 (l.filter fun e => e.kind == k).length, [some [.int .i64 k]], [some ((l.filter fun e => e.kind == k).map Ev.g ++ List.replicate (l.length - (l.filter fun e => e.kind == k).length) zEv)]) := by
    have fl : ∀ (m : List Ev), ∀ r ∈ m.map Ev.g, ∀ x ∈ r, x.flat0 = true := fun m r hr x hx => by
      obtain ⟨e, _, rfl⟩ := List.mem_map.1 hr
      simp only [Ev.g, List.mem_cons, List.not_mem_nil, or_false] at hx
      rcases hx with rfl | rfl | rfl | rfl | rfl | rfl | rfl | rfl | rfl | rfl | rfl | rfl | rfl | rfl | rfl | rfl | rfl | rfl <;> rfl
    refine Fp.lendBox (fun x hx => ?_) (fun xs hx r hr x hx' => ?_) (fun xs hx r hr x hx' => ?_) (ev_DeleteE l k hs)
    · simp only [List.mem_cons, List.not_mem_nil, or_false] at hx; subst hx; rfl
    · simp only [List.mem_cons, List.not_mem_nil, or_false] at hx; subst hx; exact fl l r hr x hx'
    · simp only [List.mem_cons, List.not_mem_nil, or_false, Option.some.injEq] at hx; subst hx
      rcases List.mem_append.1 hr with hr | hr
      · exact fl _ r hr x hx'
      · rw [List.eq_of_mem_replicate hr] at hx'
        rw [List.eq_of_mem_replicate hx']; rfl
  refine Fv.of_awp Tryd.func11 rfl (by kernel_rfl) rfl (Nat.le_of_ble_eq_true rfl) ?_
  repeat' (conv => whnf
           first
           | (refine And.intro (by kernel_rfl) ?_)
           | (refine And.intro ⟨by kernel_rfl, by kernel_rfl⟩ ?_)
           | (refine Or.inr ⟨_, n1, ?_⟩)
           | (refine Or.inr ⟨_, n2, ?_⟩)
           | (refine ⟨of_le, ?_⟩)
           | (rw [of_all])
           | (refine cond_f ?_ ?_)
           | (refine ⟨_, ⟨by decide, rfl⟩, ?_⟩)
           | (refine cond_i (fun h => ?_) (fun h => ?_)))
  all_goals (conv => whnf)
  all_goals rfl
end Go.Proofs.YtcihkmnolagdlaaDoor.Cn
