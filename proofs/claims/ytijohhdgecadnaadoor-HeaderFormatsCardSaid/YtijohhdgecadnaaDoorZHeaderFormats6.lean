/- One text out of several: Sh, Av17, Cn140, Cn149, Cn145, Cn150, Cn156, Cn157, Av15. No condition but theirs. -/
import Derived.Shelf.Strings.Builder1
import Derived.Shelf.Small.Strs
import Derived.Shelf.Strconv.Itoa0
import Derived.Shelf.Strconv.Itoa1
import Derived.Shelf.LaysM
import Derived.Shelf.Strconv.Itoa2
import Derived.Shelf.Strconv.Itoa3
import Derived.Shelf.Strings.Search1
import Derived.Shelf.Strings.Search2
import Derived.Shelf.Strings.Cut
import Derived.Shelf.Strings.Shaped
import Derived.Shelf.Strings.Prefix
import Derived.Test.YtijohhdgecadnaaDoorProg
import Derived.Below
import Derived.Sort.Grow
import Derived.WalkSmall
import Derived.KernelRfl
import Derived.Deep.Slices
import Derived.SizedLaws
import Derived.ChangeOld
import Derived.WideShapes
import Derived.ChangeShapes
import Derived.Test.YtijohhdgecadnaaDoorZHeaderFormats4
import Derived.Test.YtijohhdgecadnaaDoorZHeaderFormats5
namespace Go.Proofs
open Go.Shelf
def Tryd.lays137_ren : Go.Shelf.Ren := ⟨fun | 137 => 26 | 217 => 37 | 266 => 46 | n => n, fun | 9 => 9 | 5 => 5 | 3 => 3 | n => n, fun | n => n⟩
theorem Tryd.lays137 : Go.Proofs.Lays.n137 Tryd.prog Tryd.lays137_ren := {
  mixed := by kernel_rfl
  f137 := Tryd.func26.trans (congrArg some (by kernel_rfl))
  f217 := Tryd.func37.trans (congrArg some (by kernel_rfl))
  f266 := Tryd.func46.trans (congrArg some (by kernel_rfl))
  t3 := Tryd.underlying3
  a3 := Tryd.isAgg3
  z3 := Tryd.sizeOf3
  v3 := Tryd.zeroValue3
  t5 := Tryd.underlying5
  a5 := Tryd.isAgg5
  z5 := Tryd.sizeOf5
  v5 := Tryd.zeroValue5
  t9 := Tryd.underlying9
  a9 := Tryd.isAgg9
  z9 := Tryd.sizeOf9
  v9 := Tryd.zeroValue9 }
open Go.RowKit in
theorem Tryd.strings_IndexByte (s : ByteArray) (c : Int) (w : World) :
    Calls Tryd.prog 26 #[.string s, .int .u8 c] w fun e w' => e = .returned (.int .i64 (Lib.indexByte s.data.toList c.toNat.toUInt8)) ∧ w' = w := Any.strings_IndexByte Tryd.lays137 s c w
def Tryd.laysM171_ren : Go.Shelf.Ren := ⟨fun | 171 => 11 | 243 => 24 | 246 => 36 | 283 => 42 | 284 => 43 | 285 => 44 | 286 => 45 | 129 => 51 | 317 => 50 | 318 => 52 | 319 => 53 | 320 => 54 | 337 => 56 | 338 => 57 | n => n, fun | 3 => 3 | 9 => 9 | 2 => 2 | 4 => 4 | 171 => 70 | 0 => 0 | 53 => 71 | 37 => 47 | 5 => 5 | 173 => 74 | 212 => 77 | 51 => 78 | 20 => 20 | 213 => 79 | 46 => 55 | 232 => 84 | 233 => 85 | n => n, fun | 17 => 1 | 18 => 2 | 19 => 3 | n => n⟩
theorem Tryd.laysM171 : Go.Proofs.LaysM.n171 Tryd.prog Tryd.laysM171_ren := {
  mixed := by kernel_rfl
  f129 := Tryd.func51.trans (congrArg some (by kernel_rfl))
  f171 := Tryd.func11.trans (congrArg some (by kernel_rfl))
  f243 := Tryd.func24.trans (congrArg some (by kernel_rfl))
  f246 := Tryd.func36.trans (congrArg some (by kernel_rfl))
  f283 := Tryd.func42.trans (congrArg some (by kernel_rfl))
  f284 := Tryd.func43.trans (congrArg some (by kernel_rfl))
  f285 := Tryd.func44.trans (congrArg some (by kernel_rfl))
  f286 := Tryd.func45.trans (congrArg some (by kernel_rfl))
  f317 := Tryd.func50.trans (congrArg some (by kernel_rfl))
  f318 := Tryd.func52.trans (congrArg some (by kernel_rfl))
  f319 := Tryd.func53.trans (congrArg some (by kernel_rfl))
  f320 := Tryd.func54.trans (congrArg some (by kernel_rfl))
  f337 := Tryd.func56.trans (congrArg some (by kernel_rfl))
  f338 := Tryd.func57.trans (congrArg some (by kernel_rfl))
  t0 := Tryd.underlying0
  a0 := Tryd.isAgg0
  z0 := Tryd.sizeOf0
  v0 := Tryd.zeroValue0
  t2 := Tryd.underlying2
  a2 := Tryd.isAgg2
  z2 := Tryd.sizeOf2
  v2 := Tryd.zeroValue2
  t3 := Tryd.underlying3
  a3 := Tryd.isAgg3
  z3 := Tryd.sizeOf3
  v3 := Tryd.zeroValue3
  t4 := Tryd.underlying4
  a4 := Tryd.isAgg4
  z4 := Tryd.sizeOf4
  v4 := Tryd.zeroValue4
  t5 := Tryd.underlying5
  a5 := Tryd.isAgg5
  z5 := Tryd.sizeOf5
  v5 := Tryd.zeroValue5
  t9 := Tryd.underlying9
  a9 := Tryd.isAgg9
  z9 := Tryd.sizeOf9
  v9 := Tryd.zeroValue9
  t20 := Tryd.underlying20
  a20 := Tryd.isAgg20
  z20 := Tryd.sizeOf20
  v20 := Tryd.zeroValue20
  t37 := Tryd.underlying47
  a37 := Tryd.isAgg47
  z37 := Tryd.sizeOf47
  v37 := Tryd.zeroValue47
  t46 := Tryd.underlying55
  a46 := Tryd.isAgg55
  z46 := Tryd.sizeOf55
  v46 := Tryd.zeroValue55
  t51 := Tryd.underlying78
  a51 := Tryd.isAgg78
  z51 := Tryd.sizeOf78
  v51 := Tryd.zeroValue78
  t53 := Tryd.underlying71
  a53 := Tryd.isAgg71
  z53 := Tryd.sizeOf71
  v53 := Tryd.zeroValue71
  t171 := Tryd.underlying70
  a171 := Tryd.isAgg70
  z171 := Tryd.sizeOf70
  v171 := Tryd.zeroValue70
  t173 := Tryd.underlying74
  a173 := Tryd.isAgg74
  z173 := Tryd.sizeOf74
  v173 := Tryd.zeroValue74
  t212 := Tryd.underlying77
  a212 := Tryd.isAgg77
  z212 := Tryd.sizeOf77
  v212 := Tryd.zeroValue77
  t213 := Tryd.underlying79
  a213 := Tryd.isAgg79
  z213 := Tryd.sizeOf79
  t232 := Tryd.underlying84
  a232 := Tryd.isAgg84
  z232 := Tryd.sizeOf84
  v232 := Tryd.zeroValue84
  t233 := Tryd.underlying85
  a233 := Tryd.isAgg85
  z233 := Tryd.sizeOf85
  v233 := Tryd.zeroValue85
  g17 := by kernel_rfl
  g18 := by kernel_rfl
  g19 := by kernel_rfl
  i0 := by kernel_rfl
  i2 := by kernel_rfl
  i3 := by kernel_rfl
  i4 := by kernel_rfl
  i5 := by kernel_rfl
  i9 := by kernel_rfl
  i20 := by kernel_rfl
  i37 := by kernel_rfl
  i46 := by kernel_rfl
  i51 := by kernel_rfl
  i53 := by kernel_rfl
  i171 := by kernel_rfl
  i173 := by kernel_rfl
  i212 := by kernel_rfl
  i232 := by kernel_rfl
  i233 := by kernel_rfl
  m17 := by kernel_rfl
  m18 := by kernel_rfl
  m19 := by kernel_rfl }
open Go.RowKit Go.Sort Go.Lib in
theorem Tryd.strconv_Itoa (n : Int) (h0 : -9223372036854775808 ≤ n) (h1 : n ≤ 9223372036854775807) (w : World) (htab : Lib.TabIs Tryd.prog w "internal/strconv.uint64pow10" .u64 Lib.pow10Tab) :
    Calls Tryd.prog 11 #[.int .i64 n] w fun e w' => e = .returned (.string ⟨(Lib.itoa n).toArray⟩) ∧ ∃ k os, w' = grow (w.drewN k) os := Any.strconv_Itoa Tryd.laysM171 n h0 h1 w htab
def Tryd.lays145_ren : Go.Shelf.Ren := ⟨fun | 145 => 13 | 220 => 27 | 219 => 38 | 217 => 37 | 225 => 47 | 224 => 48 | 267 => 49 | 266 => 46 | 314 => 55 | n => n, fun | 9 => 9 | 4 => 4 | 59 => 40 | 3 => 3 | 5 => 5 | 46 => 55 | 146 => 81 | 51 => 78 | n => n, fun | 1 => 0 | n => n⟩
theorem Tryd.lays145 : Go.Proofs.Lays.n145 Tryd.prog Tryd.lays145_ren := {
  mixed := by kernel_rfl
  f145 := Tryd.func13.trans (congrArg some (by kernel_rfl))
  f217 := Tryd.func37.trans (congrArg some (by kernel_rfl))
  f219 := Tryd.func38.trans (congrArg some (by kernel_rfl))
  f220 := Tryd.func27.trans (congrArg some (by kernel_rfl))
  f224 := Tryd.func48.trans (congrArg some (by kernel_rfl))
  f225 := Tryd.func47.trans (congrArg some (by kernel_rfl))
  f266 := Tryd.func46.trans (congrArg some (by kernel_rfl))
  f267 := Tryd.func49.trans (congrArg some (by kernel_rfl))
  f314 := Tryd.func55.trans (congrArg some (by kernel_rfl))
  t3 := Tryd.underlying3
  a3 := Tryd.isAgg3
  z3 := Tryd.sizeOf3
  v3 := Tryd.zeroValue3
  t4 := Tryd.underlying4
  a4 := Tryd.isAgg4
  z4 := Tryd.sizeOf4
  v4 := Tryd.zeroValue4
  t5 := Tryd.underlying5
  a5 := Tryd.isAgg5
  z5 := Tryd.sizeOf5
  v5 := Tryd.zeroValue5
  t9 := Tryd.underlying9
  a9 := Tryd.isAgg9
  z9 := Tryd.sizeOf9
  v9 := Tryd.zeroValue9
  t46 := Tryd.underlying55
  a46 := Tryd.isAgg55
  z46 := Tryd.sizeOf55
  v46 := Tryd.zeroValue55
  t51 := Tryd.underlying78
  a51 := Tryd.isAgg78
  z51 := Tryd.sizeOf78
  v51 := Tryd.zeroValue78
  t59 := Tryd.underlying40
  a59 := Tryd.isAgg40
  z59 := Tryd.sizeOf40
  v59 := Tryd.zeroValue40
  t146 := Tryd.underlying81
  a146 := Tryd.isAgg81
  z146 := Tryd.sizeOf81
  v146 := Tryd.zeroValue81
  g1 := by kernel_rfl }
open Go.RowKit Go.Lib in
theorem Tryd.strings_Cut (s sep : ByteArray) (m : Int) (w : World) (hs : s.size < 4294967281) (hm : w.cell? ⟨0, 0, none⟩ = some (.int .i64 m)) :
    Calls Tryd.prog 13 #[.string s, .string sep] w fun e w' => e = .returned (.tuple #[.string ⟨(Lib.cut s.data.toList sep.data.toList).1.toArray⟩, .string ⟨(Lib.cut s.data.toList sep.data.toList).2.1.toArray⟩, .bool (Lib.cut s.data.toList sep.data.toList).2.2]) ∧ ∃ n, w' = w.drewN n := Any.strings_Cut Tryd.lays145 s sep m w hs hm
def Tryd.laysM145_ren : Go.Shelf.Ren := ⟨fun | 145 => 13 | 220 => 27 | 219 => 38 | 217 => 37 | 225 => 47 | 224 => 48 | 267 => 49 | 266 => 46 | 314 => 55 | n => n, fun | 9 => 9 | 4 => 4 | 59 => 40 | 3 => 3 | 5 => 5 | 46 => 55 | 146 => 81 | 51 => 78 | n => n, fun | 1 => 0 | n => n⟩
theorem Tryd.laysM145 : Go.Proofs.LaysM.n145 Tryd.prog Tryd.laysM145_ren := {
  mixed := by kernel_rfl
  f145 := Tryd.func13.trans (congrArg some (by kernel_rfl))
  f217 := Tryd.func37.trans (congrArg some (by kernel_rfl))
  f219 := Tryd.func38.trans (congrArg some (by kernel_rfl))
  f220 := Tryd.func27.trans (congrArg some (by kernel_rfl))
  f224 := Tryd.func48.trans (congrArg some (by kernel_rfl))
  f225 := Tryd.func47.trans (congrArg some (by kernel_rfl))
  f266 := Tryd.func46.trans (congrArg some (by kernel_rfl))
  f267 := Tryd.func49.trans (congrArg some (by kernel_rfl))
  f314 := Tryd.func55.trans (congrArg some (by kernel_rfl))
  t3 := Tryd.underlying3
  a3 := Tryd.isAgg3
  z3 := Tryd.sizeOf3
  v3 := Tryd.zeroValue3
  t4 := Tryd.underlying4
  a4 := Tryd.isAgg4
  z4 := Tryd.sizeOf4
  v4 := Tryd.zeroValue4
  t5 := Tryd.underlying5
  a5 := Tryd.isAgg5
  z5 := Tryd.sizeOf5
  v5 := Tryd.zeroValue5
  t9 := Tryd.underlying9
  a9 := Tryd.isAgg9
  z9 := Tryd.sizeOf9
  v9 := Tryd.zeroValue9
  t46 := Tryd.underlying55
  a46 := Tryd.isAgg55
  z46 := Tryd.sizeOf55
  v46 := Tryd.zeroValue55
  t51 := Tryd.underlying78
  a51 := Tryd.isAgg78
  z51 := Tryd.sizeOf78
  v51 := Tryd.zeroValue78
  t59 := Tryd.underlying40
  a59 := Tryd.isAgg40
  z59 := Tryd.sizeOf40
  v59 := Tryd.zeroValue40
  t146 := Tryd.underlying81
  a146 := Tryd.isAgg81
  z146 := Tryd.sizeOf81
  v146 := Tryd.zeroValue81
  g1 := by kernel_rfl
  i3 := by kernel_rfl
  i4 := by kernel_rfl
  i5 := by kernel_rfl
  i9 := by kernel_rfl
  i46 := by kernel_rfl
  i51 := by kernel_rfl
  i59 := by kernel_rfl
  i146 := by kernel_rfl
  m1 := by kernel_rfl
  s1_3 := fun w h => Go.Proofs.cell_of_shapedOpen_int (zero := #[.int .i64 0]) (t := 3) h (of_decide_eq_true (by kernel_rfl)) (by kernel_rfl) rfl (by kernel_rfl) (by kernel_rfl) Tryd.underlying3 }
open Go.RowKit Go.Lib in
theorem Tryd.strings_Cut_shaped (s sep : ByteArray) (w : World) (h : w.ShapedOpen Tryd.prog) (hs : s.size < 4294967281) :
    Calls Tryd.prog 13 #[.string s, .string sep] w fun e w' => e = .returned (.tuple #[.string ⟨(Lib.cut s.data.toList sep.data.toList).1.toArray⟩, .string ⟨(Lib.cut s.data.toList sep.data.toList).2.1.toArray⟩, .bool (Lib.cut s.data.toList sep.data.toList).2.2]) ∧ ∃ n, w' = w.drewN n := Any.strings_Cut_shaped Tryd.laysM145 s sep w h hs
def Tryd.lays102_ren : Go.Shelf.Ren := ⟨fun | 102 => 14 | 209 => 28 | 207 => 39 | n => n, fun | 9 => 9 | 4 => 4 | 3 => 3 | n => n, fun | n => n⟩
theorem Tryd.lays102 : Go.Proofs.Lays.n102 Tryd.prog Tryd.lays102_ren := {
  mixed := by kernel_rfl
  f102 := Tryd.func14.trans (congrArg some (by kernel_rfl))
  f207 := Tryd.func39.trans (congrArg some (by kernel_rfl))
  f209 := Tryd.func28.trans (congrArg some (by kernel_rfl))
  t3 := Tryd.underlying3
  a3 := Tryd.isAgg3
  z3 := Tryd.sizeOf3
  v3 := Tryd.zeroValue3
  t4 := Tryd.underlying4
  a4 := Tryd.isAgg4
  z4 := Tryd.sizeOf4
  v4 := Tryd.zeroValue4
  t9 := Tryd.underlying9
  a9 := Tryd.isAgg9
  z9 := Tryd.sizeOf9
  v9 := Tryd.zeroValue9 }
open Go.RowKit Go.Lib in
theorem Tryd.strings_TrimSuffix (s p : ByteArray) (w : World) (hs : s.size ≤ 9223372036854775807) :
    Calls Tryd.prog 14 #[.string s, .string p] w fun e w' => e = .returned (.string ⟨(Lib.trimSuffix s.data.toList p.data.toList).toArray⟩) ∧ w' = w := Any.strings_TrimSuffix Tryd.lays102 s p w hs

end Go.Proofs
namespace Go.Proofs.YtijohhdgecadnaaDoor.Av
open Go Go.RowKit Go.Sort
set_option linter.unusedVariables false

theorem Fv.of_calls {P : Program} {f : FuncId} {args : List G} {g : G} (hb : hasBody P f = true)
    (h : ∀ (C : Cx) (w : World) (vs : List Value), vs.length = args.length → (∀ (i : Nat) g v, args[i]? = some g → vs[i]? = some v → Rep C w g v) → Fixed w C.ex →
      Calls P f ⟨vs⟩ w fun e w' => ∃ v, e = .returned v ∧ Rep C w' g v ∧ Below w.heap.size w w') : Fv P f args g := by
  refine ⟨hb, fun C w t0 vs hl hr hM ht hb0 hr0 hfx => (h C w vs hl hr hfx).mono fun e w' ⟨v, he, hv, hB⟩ => ?_⟩
  have nb : ∀ b B, C.box b = some B → False := fun b B hB => by obtain ⟨cs, hcs⟩ := hM.domB b B hB; simp at hcs
  have nr : ∀ k r, C.row k = some r → False := fun k r hk => by obtain ⟨xs, hxs⟩ := hM.domR k r hk; simp at hxs
  exact ⟨v, C, g, [], [], he, ⟨rfl, rfl, rfl⟩, hv,
    ⟨fun b cs hb => by simp at hb, fun k xs hk => by simp at hk, fun b B hB => (nb b B hB).elim, fun k r hk => (nr k r hk).elim, fun b _ B hB => (nb b B hB).elim, fun k _ B s sz n _ _ _ hk => (nr k _ hk).elim, fun b _ B _ _ _ hB => (nb b B hB).elim, fun X hX => Nat.lt_of_lt_of_le (hM.lt X hX) hB.size⟩,
    ⟨fun _ _ h => h, ⟨hB.os, hB.tape, hB.output, hB.size, fun B hlt _ => hB.block B hlt, fun B vs T fz h => ⟨vs, fz, by rw [hB.block B (Array.getElem?_eq_some_iff.1 h).1]; exact h, rfl⟩⟩, fun _ h => h, fun _ h => .inl h, fun b B hB => (nb b B hB).elim, fun k B s sz n hk => (nr k _ hk).elim⟩⟩
theorem below_grow (w : World) (os : Array Obj) : Below w.heap.size w (grow w os) :=
  ⟨rfl, rfl, rfl, by simp [grow], fun k hk => by simp only [grow]; rw [Array.getElem?_append_left hk]⟩
theorem below_drew (w : World) (k : Nat) : Below w.heap.size w (w.drewN k) := ⟨rfl, rfl, rfl, Nat.le_refl _, fun _ _ => rfl⟩
theorem below_grown (w : World) (k : Nat) (os : Array Obj) : Below w.heap.size w (grow (w.drewN k) os) := (below_drew w k).trans (below_grow (w.drewN k) os)
end Go.Proofs.YtijohhdgecadnaaDoor.Av
namespace Go.Proofs.YtijohhdgecadnaaDoor.Cn
open Go Go.Proofs Go.Proofs.YtijohhdgecadnaaDoor.Av Go.Proofs.YtijohhdgecadnaaDoor.Sp Go.RowKit
set_option linter.unusedVariables false
set_option linter.unusedSimpArgs false
set_option linter.unusedSectionVars false
set_option maxRecDepth 100000

theorem below_same (w : World) : Below w.heap.size w w := Below.refl _ w
theorem str_IndexByte (s : ByteArray) : Fv Tryd.prog 26 [.str s, .int .u8 10] (.int .i64 (Lib.indexByte s.data.toList 10)) := by
  refine Fv.of_calls (by kernel_rfl) fun C w vs hl hr hfx => ?_
  match vs, hl with
  | [v, u], _ =>
    obtain rfl := (hr 0 _ v rfl rfl).str_inv
    obtain rfl := (hr 1 _ u rfl rfl).int_inv
    exact (Tryd.strings_IndexByte s 10 w).mono fun e w' ⟨he, hw⟩ => ⟨_, he, .int _ _, by rw [hw]; exact below_same w⟩
theorem str_TrimSuffix (s p : ByteArray) (h : s.size ≤ 9223372036854775807) : Fv Tryd.prog 14 [.str s, .str p] (.str (strL (Lib.trimSuffix s.data.toList p.data.toList))) := by
  refine Fv.of_calls (by kernel_rfl) fun C w vs hl hr hfx => ?_
  match vs, hl with
  | [v, u], _ =>
    obtain rfl := (hr 0 _ v rfl rfl).str_inv
    obtain rfl := (hr 1 _ u rfl rfl).str_inv
    exact (Tryd.strings_TrimSuffix s p w h).mono fun e w' ⟨he, hw⟩ => ⟨_, he, .str _, by rw [hw]; exact below_same w⟩
def cutG (s sep : ByteArray) : G := .tup [.str (strL (Lib.cut s.data.toList sep.data.toList).1), .str (strL (Lib.cut s.data.toList sep.data.toList).2.1), .bool (Lib.cut s.data.toList sep.data.toList).2.2]
theorem str_Cut (s sep : ByteArray) (h : s.size < 4294967281) : Fv Tryd.prog 13 [.str s, .str sep] (cutG s sep) := by
  refine Fv.of_calls (by kernel_rfl) fun C w vs hl hr hfx => ?_
  match vs, hl with
  | [v, u], _ =>
    obtain rfl := (hr 0 _ v rfl rfl).str_inv
    obtain rfl := (hr 1 _ u rfl rfl).str_inv
    obtain ⟨_, _, m, hm⟩ := hfx.opn 0 (List.mem_singleton.2 rfl)
    exact (Tryd.strings_Cut s sep m w h hm).mono fun e w' ⟨he, n, hw⟩ => ⟨_, he, .tup _ _ rfl (fun i g v hg hv => by
      match i with
      | 0 => simp at hg hv; subst hg; subst hv; exact .str _
      | 1 => simp at hg hv; subst hg; subst hv; exact .str _
      | 2 => simp at hg hv; subst hg; subst hv; exact .bool _
      | i + 3 => simp at hg), by rw [hw]; exact below_drew w n⟩
attribute [local irreducible] Fv Fp
theorem str_Lines (s : ByteArray) : Fp Tryd.prog 12 [.str s] [] [] (.fn 25 [.ptr 0 0], [some [.str s]], []) := by
  refine Fp.of_awp Tryd.func12 rfl (by kernel_rfl) (Nat.le_of_ble_eq_true rfl) ?_
  repeat' (conv => whnf
           first
           | (refine And.intro (Or.inl (by kernel_rfl)) ?_)
           | (refine And.intro (by kernel_rfl) ?_)
           | (refine And.intro ⟨by kernel_rfl, by kernel_rfl⟩ ?_)
           | (refine cond_f ?_ ?_)
           | (refine ⟨_, ⟨by decide, rfl⟩, ?_⟩)
           | (refine cond_i (fun h => ?_) (fun h => ?_)))
  all_goals (conv => whnf)
  all_goals rfl
theorem str_iter : IterS Tryd.prog 25 (fun s => s.size < 4611686018427387904) linesB := by
  refine IterS.of_awp (N := 25) (ta := 21) (tb := 22) (tc := 23) (td := 24) (tl := 3) Tryd.func25 rfl rfl rfl rfl rfl rfl rfl rfl rfl rfl rfl rfl rfl rfl rfl (by decide) rfl (fun s h => linesB_nil h) (fun l s h => ?_) (fun r h hok => ?_)
  · have b0 : decide ((s.size : Int) > 0) = false := decide_eq_false (by omega)
    repeat' (conv => whnf
             first
             | (refine And.intro (Or.inl (by kernel_rfl)) ?_)
             | (refine And.intro (by kernel_rfl) ?_)
             | (refine And.intro ⟨by kernel_rfl, by kernel_rfl⟩ ?_)
             | (refine cond_0 b0 ?_)
             | (refine cond_f ?_ ?_)
             | (refine ⟨_, ⟨by decide, rfl⟩, ?_⟩)
             | (refine cond_i (fun h => ?_) (fun h => ?_)))
    all_goals (conv => whnf)
    all_goals rfl
  · have b0 : decide ((r.size : Int) > 0) = true := decide_eq_true (by omega)
    have n1 := str_IndexByte r
    by_cases hi : 0 ≤ Lib.indexByte r.data.toList 10
    · obtain ⟨i, hi'⟩ : ∃ i : Nat, Lib.indexByte r.data.toList 10 = (i : Int) := ⟨(Lib.indexByte r.data.toList 10).toNat, by omega⟩
      obtain ⟨h1, h2⟩ := linesB_hit hi'
      rw [hi'] at n1
      have w1 : IntKind.i64.wrap ((i : Int) + 1) = (i : Int) + 1 := wrap_i64 (by omega)
      have b1 : decide ((i : Int) ≥ 0) = true := decide_eq_true (by omega)
      have f1 : 0 ≤ (0 : Int) ∧ (0 : Int) ≤ IntKind.i64.wrap ((i : Int) + 1) ∧ IntKind.i64.wrap ((i : Int) + 1) ≤ (r.size : Int) := by rw [w1]; omega
      have f2 : 0 ≤ IntKind.i64.wrap ((i : Int) + 1) ∧ IntKind.i64.wrap ((i : Int) + 1) ≤ (r.size : Int) ∧ (r.size : Int) ≤ (r.size : Int) := by rw [w1]; omega
      have h1' : linesB r = r.extract 0 (IntKind.i64.wrap ((i : Int) + 1)).toNat :: linesB (r.extract (IntKind.i64.wrap ((i : Int) + 1)).toNat r.size) := by rw [w1, show ((i : Int) + 1).toNat = i + 1 from by omega]; exact h1
      refine ⟨_, _, h1', by rw [ByteArray.size_extract]; omega, fun l => ?_⟩
      repeat' (conv => whnf
               first
               | (refine And.intro (Or.inl (by kernel_rfl)) ?_)
               | (refine And.intro (by kernel_rfl) ?_)
               | (refine And.intro ⟨by kernel_rfl, by kernel_rfl⟩ ?_)
               | (refine cond_1 b0 ?_)
               | (refine Or.inl ⟨_, n1, ?_⟩)
               | (refine ⟨_, n1, ?_⟩)
               | (refine cond_1 b1 ?_)
               | (refine ⟨f1, ?_⟩)
               | (refine ⟨f2, ?_⟩)
               | (refine cond_f ?_ ?_)
               | (refine ⟨_, ⟨by decide, rfl⟩, ?_⟩)
               | (refine cond_i (fun h => ?_) (fun h => ?_)))
      all_goals (conv => whnf)
      all_goals rfl
    · have h1 := linesB_miss hi h
      have b1 : decide (Lib.indexByte r.data.toList 10 ≥ 0) = false := decide_eq_false hi
      refine ⟨_, _, h1, by decide, fun l => ?_⟩
      repeat' (conv => whnf
               first
               | (refine And.intro (Or.inl (by kernel_rfl)) ?_)
               | (refine And.intro (by kernel_rfl) ?_)
               | (refine And.intro ⟨by kernel_rfl, by kernel_rfl⟩ ?_)
               | (refine cond_1 b0 ?_)
               | (refine Or.inl ⟨_, n1, ?_⟩)
               | (refine ⟨_, n1, ?_⟩)
               | (refine cond_0 b1 ?_)
               | (refine cond_f ?_ ?_)
               | (refine ⟨_, ⟨by decide, rfl⟩, ?_⟩)
               | (refine cond_i (fun h => ?_) (fun h => ?_)))
      all_goals (conv => whnf)
      all_goals rfl
end Go.Proofs.YtijohhdgecadnaaDoor.Cn
namespace Go.Proofs.YtijohhdgecadnaaDoor.Cn
open Go Go.Proofs Go.Proofs.YtijohhdgecadnaaDoor.Av Go.Proofs.YtijohhdgecadnaaDoor.Sp Go.RowKit
set_option linter.unusedVariables false
set_option linter.unusedSimpArgs false
set_option linter.unusedSectionVars false
set_option maxRecDepth 100000
attribute [local irreducible] Fv Fp

/-- The parts of the loop's state. -/
def paSl : List G := mkS 49 0 [(2, .ptr 2 0), (3, .ptr 3 0), (4, .ptr 4 0), (5, .ptr 5 0), (6, .ptr 6 0), (7, .ptr 7 0), (15, .fn 25 [.ptr 15 0])]
def paBx (q : Trl) (l e : Int) (t : Trl) (h0 h1 h2 : Bool) (n : Int) (r : ByteArray) : List (Option (List G)) :=
  mkB 57 0 [(2, q.g), (3, [.int .i64 l]), (4, [.int .i64 e]), (5, t.g), (6, [.bool h0, .bool h1, .bool h2]), (7, [.int .i64 n]), (15, [.str r])]
theorem mkB_mem (l : List (Nat × List G)) : ∀ (n i : Nat) cs, some cs ∈ mkB n i l → ∃ p ∈ l, p.2 = cs
  | 0, i, cs, h => by simp [mkB] at h
  | n + 1, i, cs, h => by
    rw [mkB] at h
    rcases List.mem_cons.1 h with h | h
    · cases hf : l.find? (fun p => Nat.beq p.1 i) with
      | none => rw [hf] at h; cases h
      | some p => rw [hf] at h; cases h; exact ⟨p, List.mem_of_find?_eq_some hf, rfl⟩
    · exact mkB_mem l n (i + 1) cs h
theorem paBx_closed {q : Trl} {l e : Int} {t : Trl} {h0 h1 h2 : Bool} {n : Int} {r : ByteArray} : ∀ cs, some cs ∈ paBx q l e t h0 h1 h2 n r → ∀ g ∈ cs, g.closed0 = true := fun cs hcs g hg => by
  obtain ⟨p, hp, rfl⟩ := mkB_mem _ _ _ _ hcs
  simp only [List.mem_cons, List.not_mem_nil, or_false] at hp
  rcases hp with rfl | rfl | rfl | rfl | rfl | rfl | rfl <;> simp only [Trl.g, List.mem_cons, List.not_mem_nil, or_false] at hg <;> rcases hg with rfl | rfl | rfl <;> rfl
def paI (s : ByteArray) (pre : List ByteArray) (bx : List (Option (List G))) : Prop := ∃ t h0 h1 h2 n r, bx = paBx tr0 0 0 t h0 h1 h2 n r ∧ n = (pre.length : Nat) ∧ ∀ suf, linesB s = pre ++ suf → parseT s = parseP suf n t h0 h1 h2
def paX (s : ByteArray) (c : Code) (bx : List (Option (List G))) : Prop := c = .ret ∧ ∃ t h0 h1 h2 n r, bx = paBx (parseT s).1 (parseT s).2.1 (parseT s).2.2 t h0 h1 h2 n r
set_option maxHeartbeats 8000000 in
theorem hd_Parse (s : ByteArray) (h : s.size ≤ 1000000) : Fv Tryd.prog 7 [.str s] (resG (parseT s)) := by
  refine Fv.of_range (p := 16) Tryd.func7 rfl (by kernel_rfl) rfl (Nat.le_of_ble_eq_true rfl) str_iter (enters_of Tryd.func25 (by kernel_rfl) rfl) [2, 3, 4, 5, 6, 7, 15] [] paSl (paBx tr0 0 0 tr1 false false false 0 s) 57 15 s (by show s.size < _; omega)
    rfl rfl rfl (paI s) (paX s) ⟨tr1, false, false, false, 0, s, rfl, rfl, fun suf hs => by rw [← show linesB s = suf from hs]; rfl⟩ ?_ ?_ ?_ (fun pre x suf bx hx hI => ?_) (fun bx hI => ?_) (fun c bx hX => ?_)
  · rintro pre bx r ⟨t, h0, h1, h2, n, r0, rfl, h3, h4⟩
    exact ⟨t, h0, h1, h2, n, r, rfl, h3, h4⟩
  · rintro pre bx ⟨t, h0, h1, h2, n, r0, rfl, h3, h4⟩
    exact ⟨r0, rfl⟩
  · skip
    repeat' (conv => whnf
             first
             | (refine And.intro (Or.inl (by kernel_rfl)) ?_)
             | (refine And.intro (by kernel_rfl) ?_)
             | (refine And.intro ⟨by kernel_rfl, by kernel_rfl⟩ ?_)
             | (refine Or.inr ⟨_, str_Lines s, ?_⟩)
             | (refine cond_f ?_ ?_)
             | (refine ⟨_, ⟨by decide, rfl⟩, ?_⟩)
             | (refine cond_i (fun h => ?_) (fun h => ?_)))
    all_goals (conv => whnf)
    all_goals rfl
  · obtain ⟨t, h0, h1, h2, n, r, rfl, hn, hp⟩ := hI
    have hp := hp _ hx
    obtain ⟨hl1, hl2⟩ := linesB_len s
    have hxs := hl2 x (by rw [hx]; simp)
    have hlen : pre.length < 1000000 := by have := congrArg List.length hx; rw [List.length_append, List.length_cons] at this; omega
    have w1 : IntKind.i64.wrap (n + 1) = n + 1 := wrap_i64 (by omega)
    have wn : IntKind.i64.wrap (n + 1) = ((pre ++ [x]).length : Nat) := by rw [w1, hn]; simp
    have n1 : Fv Tryd.prog 14 [.str x, .str ⟨#[10]⟩] (.str (strL (trimL x))) := str_TrimSuffix x ⟨#[10]⟩ (by omega)
    have n2 : Fv Tryd.prog 13 [.str (strL (trimL x)), .str ⟨#[58, 32]⟩] (.tup [.str (strL (cutL x).1), .str (strL (cutL x).2.1), .bool (cutL x).2.2]) := str_Cut (strL (trimL x)) ⟨#[58, 32]⟩ (by rw [strL_size]; have := trimL_len x; omega)
    obtain ⟨hc1, hc2⟩ := cutL_len x
    have hgo : ∀ (suf' : List ByteArray), linesB s = (pre ++ [x]) ++ suf' → suf' = suf := fun suf' e => by
      rw [List.append_assoc] at e
      have := List.append_cancel_left (hx.symm.trans e)
      simpa using this.symm
    obtain ⟨t0, hst⟩ : ∃ t0, t0 = parseT s := ⟨_, rfl⟩
    unfold paI paX
    rw [← hst] at hp ⊢
    clear hst hl1 hl2
    rw [parseP] at hp
    generalize cutL x = q at *
    obtain ⟨name, rest, ok⟩ := q
    simp only at hp n2 hc1 hc2
    have n3 : Fv Tryd.prog 15 [.str (strL name)] (.int .i64 (kindN name : Nat)) := hd_kind (strL name) (by rw [strL_size]; omega)
    cases ok with
    | false =>
      have b1 : (!false) = true := rfl
      have e : t0 = (tr0, IntKind.i64.wrap (n + 1), 5) := by rw [hp, w1]; rfl
      rw [e]
      repeat' (conv => whnf
               first
               | (refine And.intro (Or.inl (by kernel_rfl)) ?_)
               | (refine And.intro (by kernel_rfl) ?_)
               | (refine And.intro ⟨by kernel_rfl, by kernel_rfl⟩ ?_)
               | (refine Or.inl ⟨_, n1, ?_⟩)
               | (refine ⟨_, n1, ?_⟩)
               | (refine Or.inl ⟨_, n2, ?_⟩)
               | (refine ⟨_, n2, ?_⟩)
               | (refine cond_f ?_ ?_)
               | (refine ⟨_, ⟨by decide, rfl⟩, ?_⟩)
               | (refine cond_i (fun h => ?_) (fun h => ?_)))
      all_goals (conv => whnf)
      exact ⟨⟨rfl, t, h0, h1, h2, (IntKind.i64.wrap (n + 1)), r, rfl⟩, paBx_closed (q := tr0) (l := (IntKind.i64.wrap (n + 1))) (e := 5) (t := t) (h0 := h0) (h1 := h1) (h2 := h2) (n := (IntKind.i64.wrap (n + 1))) (r := r)⟩
    | true =>
      rw [if_neg (by simp)] at hp
      have hk3 : kindN name = 0 ∨ kindN name = 1 ∨ kindN name = 2 ∨ kindN name = 3 := by unfold kindN; (repeat' split) <;> simp
      rcases hk3 with hk | hk | hk | hk
      · rw [hk] at n3 hp
        have n3 : Fv Tryd.prog 15 [.str (strL name)] (.int .i64 0) := n3
        have f3 : 0 ≤ (0 : Int) ∧ (0 : Int) < ((3 : Nat) : Int) := by decide
        have n4 : Fp Tryd.prog 16 [.ptr 0 0, .int .i64 0, .str (strL rest)] [t.g] [] (.tup [], [some [.int .i64 (codeI rest), .str t.msg, .int .i64 t.push]], []) := hd_value0 (strL rest) t.code t.push t.msg
        cases h0 with
        | true =>
          have e : t0 = (tr0, IntKind.i64.wrap (n + 1), 8) := by rw [hp, w1]; rfl
          rw [e]
          repeat' (conv => whnf
                   first
                   | (refine And.intro (Or.inl (by kernel_rfl)) ?_)
                   | (refine And.intro (by kernel_rfl) ?_)
                   | (refine And.intro ⟨by kernel_rfl, by kernel_rfl⟩ ?_)
                   | (refine Or.inl ⟨_, n1, ?_⟩)
                   | (refine ⟨_, n1, ?_⟩)
                   | (refine Or.inl ⟨_, n2, ?_⟩)
                   | (refine ⟨_, n2, ?_⟩)
                   | (refine Or.inl ⟨_, n3, ?_⟩)
                   | (refine ⟨_, n3, ?_⟩)
                   | (refine Or.inr ⟨_, n4, ?_⟩)
                   | (refine ⟨f3, ?_⟩)
                   | (refine cond_f ?_ ?_)
                   | (refine ⟨_, ⟨by decide, rfl⟩, ?_⟩)
                   | (refine cond_i (fun h => ?_) (fun h => ?_)))
          all_goals (conv => whnf)
          exact ⟨⟨rfl, t, true, h1, h2, (IntKind.i64.wrap (n + 1)), r, rfl⟩, paBx_closed (q := tr0) (l := (IntKind.i64.wrap (n + 1))) (e := 8) (t := t) (h0 := true) (h1 := h1) (h2 := h2) (n := (IntKind.i64.wrap (n + 1))) (r := r)⟩
        | false =>
          have e : t0 = parseP suf (IntKind.i64.wrap (n + 1)) { t with code := codeI rest } true h1 h2 := by rw [hp, w1]; rfl
          repeat' (conv => whnf
                   first
                   | (refine And.intro (Or.inl (by kernel_rfl)) ?_)
                   | (refine And.intro (by kernel_rfl) ?_)
                   | (refine And.intro ⟨by kernel_rfl, by kernel_rfl⟩ ?_)
                   | (refine Or.inl ⟨_, n1, ?_⟩)
                   | (refine ⟨_, n1, ?_⟩)
                   | (refine Or.inl ⟨_, n2, ?_⟩)
                   | (refine ⟨_, n2, ?_⟩)
                   | (refine Or.inl ⟨_, n3, ?_⟩)
                   | (refine ⟨_, n3, ?_⟩)
                   | (refine Or.inr ⟨_, n4, ?_⟩)
                   | (refine ⟨f3, ?_⟩)
                   | (refine cond_f ?_ ?_)
                   | (refine ⟨_, ⟨by decide, rfl⟩, ?_⟩)
                   | (refine cond_i (fun h => ?_) (fun h => ?_)))
          all_goals (conv => whnf)
          exact ⟨⟨⟨{ t with code := codeI rest }, true, h1, h2, (IntKind.i64.wrap (n + 1)), r, rfl, wn, fun suf' hs => by rw [hgo suf' hs]; exact e⟩, rfl⟩, paBx_closed (q := tr0) (l := 0) (e := 0) (t := { t with code := codeI rest }) (h0 := true) (h1 := h1) (h2 := h2) (n := (IntKind.i64.wrap (n + 1))) (r := r)⟩
      · rw [hk] at n3 hp
        have n3 : Fv Tryd.prog 15 [.str (strL name)] (.int .i64 1) := n3
        have f3 : 0 ≤ (1 : Int) ∧ (1 : Int) < ((3 : Nat) : Int) := by decide
        have n4 : Fp Tryd.prog 16 [.ptr 0 0, .int .i64 1, .str (strL rest)] [t.g] [] (.tup [], [some [.int .i64 t.code, .str (strL (unqL rest)), .int .i64 t.push]], []) := hd_value1 (strL rest) t.code t.push t.msg (by rw [strL_size]; omega)
        cases h1 with
        | true =>
          have e : t0 = (tr0, IntKind.i64.wrap (n + 1), 8) := by rw [hp, w1]; rfl
          rw [e]
          repeat' (conv => whnf
                   first
                   | (refine And.intro (Or.inl (by kernel_rfl)) ?_)
                   | (refine And.intro (by kernel_rfl) ?_)
                   | (refine And.intro ⟨by kernel_rfl, by kernel_rfl⟩ ?_)
                   | (refine Or.inl ⟨_, n1, ?_⟩)
                   | (refine ⟨_, n1, ?_⟩)
                   | (refine Or.inl ⟨_, n2, ?_⟩)
                   | (refine ⟨_, n2, ?_⟩)
                   | (refine Or.inl ⟨_, n3, ?_⟩)
                   | (refine ⟨_, n3, ?_⟩)
                   | (refine Or.inr ⟨_, n4, ?_⟩)
                   | (refine ⟨f3, ?_⟩)
                   | (refine cond_f ?_ ?_)
                   | (refine ⟨_, ⟨by decide, rfl⟩, ?_⟩)
                   | (refine cond_i (fun h => ?_) (fun h => ?_)))
          all_goals (conv => whnf)
          exact ⟨⟨rfl, t, h0, true, h2, (IntKind.i64.wrap (n + 1)), r, rfl⟩, paBx_closed (q := tr0) (l := (IntKind.i64.wrap (n + 1))) (e := 8) (t := t) (h0 := h0) (h1 := true) (h2 := h2) (n := (IntKind.i64.wrap (n + 1))) (r := r)⟩
        | false =>
          have e : t0 = parseP suf (IntKind.i64.wrap (n + 1)) { t with msg := strL (unqL rest) } h0 true h2 := by rw [hp, w1]; rfl
          repeat' (conv => whnf
                   first
                   | (refine And.intro (Or.inl (by kernel_rfl)) ?_)
                   | (refine And.intro (by kernel_rfl) ?_)
                   | (refine And.intro ⟨by kernel_rfl, by kernel_rfl⟩ ?_)
                   | (refine Or.inl ⟨_, n1, ?_⟩)
                   | (refine ⟨_, n1, ?_⟩)
                   | (refine Or.inl ⟨_, n2, ?_⟩)
                   | (refine ⟨_, n2, ?_⟩)
                   | (refine Or.inl ⟨_, n3, ?_⟩)
                   | (refine ⟨_, n3, ?_⟩)
                   | (refine Or.inr ⟨_, n4, ?_⟩)
                   | (refine ⟨f3, ?_⟩)
                   | (refine cond_f ?_ ?_)
                   | (refine ⟨_, ⟨by decide, rfl⟩, ?_⟩)
                   | (refine cond_i (fun h => ?_) (fun h => ?_)))
          all_goals (conv => whnf)
          exact ⟨⟨⟨{ t with msg := strL (unqL rest) }, h0, true, h2, (IntKind.i64.wrap (n + 1)), r, rfl, wn, fun suf' hs => by rw [hgo suf' hs]; exact e⟩, rfl⟩, paBx_closed (q := tr0) (l := 0) (e := 0) (t := { t with msg := strL (unqL rest) }) (h0 := h0) (h1 := true) (h2 := h2) (n := (IntKind.i64.wrap (n + 1))) (r := r)⟩
      · rw [hk] at n3 hp
        have n3 : Fv Tryd.prog 15 [.str (strL name)] (.int .i64 2) := n3
        have f3 : 0 ≤ (2 : Int) ∧ (2 : Int) < ((3 : Nat) : Int) := by decide
        have n4 : Fp Tryd.prog 16 [.ptr 0 0, .int .i64 2, .str (strL rest)] [t.g] [] (.tup [], [some [.int .i64 t.code, .str t.msg, .int .i64 (numI rest 7)]], []) := hd_value2 (strL rest) t.code t.push t.msg
        cases h2 with
        | true =>
          have e : t0 = (tr0, IntKind.i64.wrap (n + 1), 8) := by rw [hp, w1]; rfl
          rw [e]
          repeat' (conv => whnf
                   first
                   | (refine And.intro (Or.inl (by kernel_rfl)) ?_)
                   | (refine And.intro (by kernel_rfl) ?_)
                   | (refine And.intro ⟨by kernel_rfl, by kernel_rfl⟩ ?_)
                   | (refine Or.inl ⟨_, n1, ?_⟩)
                   | (refine ⟨_, n1, ?_⟩)
                   | (refine Or.inl ⟨_, n2, ?_⟩)
                   | (refine ⟨_, n2, ?_⟩)
                   | (refine Or.inl ⟨_, n3, ?_⟩)
                   | (refine ⟨_, n3, ?_⟩)
                   | (refine Or.inr ⟨_, n4, ?_⟩)
                   | (refine ⟨f3, ?_⟩)
                   | (refine cond_f ?_ ?_)
                   | (refine ⟨_, ⟨by decide, rfl⟩, ?_⟩)
                   | (refine cond_i (fun h => ?_) (fun h => ?_)))
          all_goals (conv => whnf)
          exact ⟨⟨rfl, t, h0, h1, true, (IntKind.i64.wrap (n + 1)), r, rfl⟩, paBx_closed (q := tr0) (l := (IntKind.i64.wrap (n + 1))) (e := 8) (t := t) (h0 := h0) (h1 := h1) (h2 := true) (n := (IntKind.i64.wrap (n + 1))) (r := r)⟩
        | false =>
          have e : t0 = parseP suf (IntKind.i64.wrap (n + 1)) { t with push := numI rest 7 } h0 h1 true := by rw [hp, w1]; rfl
          repeat' (conv => whnf
                   first
                   | (refine And.intro (Or.inl (by kernel_rfl)) ?_)
                   | (refine And.intro (by kernel_rfl) ?_)
                   | (refine And.intro ⟨by kernel_rfl, by kernel_rfl⟩ ?_)
                   | (refine Or.inl ⟨_, n1, ?_⟩)
                   | (refine ⟨_, n1, ?_⟩)
                   | (refine Or.inl ⟨_, n2, ?_⟩)
                   | (refine ⟨_, n2, ?_⟩)
                   | (refine Or.inl ⟨_, n3, ?_⟩)
                   | (refine ⟨_, n3, ?_⟩)
                   | (refine Or.inr ⟨_, n4, ?_⟩)
                   | (refine ⟨f3, ?_⟩)
                   | (refine cond_f ?_ ?_)
                   | (refine ⟨_, ⟨by decide, rfl⟩, ?_⟩)
                   | (refine cond_i (fun h => ?_) (fun h => ?_)))
          all_goals (conv => whnf)
          exact ⟨⟨⟨{ t with push := numI rest 7 }, h0, h1, true, (IntKind.i64.wrap (n + 1)), r, rfl, wn, fun suf' hs => by rw [hgo suf' hs]; exact e⟩, rfl⟩, paBx_closed (q := tr0) (l := 0) (e := 0) (t := { t with push := numI rest 7 }) (h0 := h0) (h1 := h1) (h2 := true) (n := (IntKind.i64.wrap (n + 1))) (r := r)⟩
      · rw [hk] at n3 hp
        have n3 : Fv Tryd.prog 15 [.str (strL name)] (.int .i64 3) := n3
        have e : t0 = parseP suf (IntKind.i64.wrap (n + 1)) t h0 h1 h2 := by rw [hp, w1]; rfl
        repeat' (conv => whnf
                 first
                 | (refine And.intro (Or.inl (by kernel_rfl)) ?_)
                 | (refine And.intro (by kernel_rfl) ?_)
                 | (refine And.intro ⟨by kernel_rfl, by kernel_rfl⟩ ?_)
                 | (refine Or.inl ⟨_, n1, ?_⟩)
                 | (refine ⟨_, n1, ?_⟩)
                 | (refine Or.inl ⟨_, n2, ?_⟩)
                 | (refine ⟨_, n2, ?_⟩)
                 | (refine Or.inl ⟨_, n3, ?_⟩)
                 | (refine ⟨_, n3, ?_⟩)
                 | (refine cond_f ?_ ?_)
                 | (refine ⟨_, ⟨by decide, rfl⟩, ?_⟩)
                 | (refine cond_i (fun h => ?_) (fun h => ?_)))
        all_goals (conv => whnf)
        exact ⟨⟨⟨t, h0, h1, h2, (IntKind.i64.wrap (n + 1)), r, rfl, wn, fun suf' hs => by rw [hgo suf' hs]; exact e⟩, rfl⟩, paBx_closed (q := tr0) (l := 0) (e := 0) (t := t) (h0 := h0) (h1 := h1) (h2 := h2) (n := (IntKind.i64.wrap (n + 1))) (r := r)⟩
  · obtain ⟨t, h0, h1, h2, n, r, rfl, hn, hp⟩ := hI
    have hp := hp [] (by simp)
    rw [parseP] at hp
    rw [hp]
    have f3 : 0 ≤ (0 : Int) ∧ (0 : Int) < ((3 : Nat) : Int) := by decide
    cases h0 with
    | true =>
      repeat' (conv => whnf
               first
               | (refine And.intro (Or.inl (by kernel_rfl)) ?_)
               | (refine And.intro (by kernel_rfl) ?_)
               | (refine And.intro ⟨by kernel_rfl, by kernel_rfl⟩ ?_)
               | (refine ⟨f3, ?_⟩)
               | (refine cond_f ?_ ?_)
               | (refine ⟨_, ⟨by decide, rfl⟩, ?_⟩)
               | (refine cond_i (fun h => ?_) (fun h => ?_)))
      all_goals (conv => whnf)
      all_goals rfl
    | false =>
      repeat' (conv => whnf
               first
               | (refine And.intro (Or.inl (by kernel_rfl)) ?_)
               | (refine And.intro (by kernel_rfl) ?_)
               | (refine And.intro ⟨by kernel_rfl, by kernel_rfl⟩ ?_)
               | (refine ⟨f3, ?_⟩)
               | (refine cond_f ?_ ?_)
               | (refine ⟨_, ⟨by decide, rfl⟩, ?_⟩)
               | (refine cond_i (fun h => ?_) (fun h => ?_)))
      all_goals (conv => whnf)
      all_goals rfl
  · obtain ⟨rfl, t, h0, h1, h2, n, r, rfl⟩ := hX
    repeat' (conv => whnf
             first
             | (refine And.intro (Or.inl (by kernel_rfl)) ?_)
             | (refine And.intro (by kernel_rfl) ?_)
             | (refine And.intro ⟨by kernel_rfl, by kernel_rfl⟩ ?_)
             | (refine cond_f ?_ ?_)
             | (refine ⟨_, ⟨by decide, rfl⟩, ?_⟩)
             | (refine cond_i (fun h => ?_) (fun h => ?_)))
    all_goals (conv => whnf)
    all_goals rfl
end Go.Proofs.YtijohhdgecadnaaDoor.Cn
namespace Go.Proofs.YtijohhdgecadnaaDoor.Cn
open Go Go.Proofs Go.Proofs.YtijohhdgecadnaaDoor.Av Go.Proofs.YtijohhdgecadnaaDoor.Sp Go.RowKit
set_option linter.unusedVariables false
set_option linter.unusedSimpArgs false
set_option linter.unusedSectionVars false
set_option maxRecDepth 100000
attribute [local irreducible] Fv Fp

theorem u8_one {l : List UInt8} (h : l.length ≤ 100000000) : 0 + l.length ≤ (bldR l).length ∧ (0 < l.length + 1 ∨ bldR l = []) ∧ fitsB Tryd.prog 5 (l.length + 1) ∧ ∀ r ∈ bldR l, r.length = Tryd.prog.cellsOf 5 := by
  refine ⟨by simp [bldR], .inl (by omega), by unfold fitsB; rw [u8b]; omega, fun r hr => by obtain ⟨x, _, rfl⟩ := List.mem_map.1 hr; rw [u8c]; rfl⟩
theorem u8_snoc (l : List UInt8) (c : UInt8) : ((bldR l).drop 0).take l.length ++ [[G.int .u8 (c.toNat : Int)]] = bldR (l ++ [c]) := by
  unfold bldR; rw [List.drop_zero, List.map_append, List.take_of_length_le (by simp)]; rfl
theorem hexI_iff (c : Int) : hexI c ≥ 0 ↔ nibN c.toNat < 16 := by
  unfold hexI
  split
  · constructor
    · intro _; assumption
    · intro _; omega
  · constructor
    · intro h; omega
    · intro h; omega
theorem hexI_val {c : Int} (h : nibN c.toNat < 16) : hexI c = (nibN c.toNat : Nat) := by unfold hexI; rw [if_pos h]
end Go.Proofs.YtijohhdgecadnaaDoor.Cn
namespace Go.Proofs.YtijohhdgecadnaaDoor.Cn
open Go Go.Proofs Go.Proofs.YtijohhdgecadnaaDoor.Av Go.Proofs.YtijohhdgecadnaaDoor.Sp Go.RowKit
set_option linter.unusedVariables false
set_option linter.unusedSimpArgs false
set_option linter.unusedSectionVars false
set_option maxRecDepth 100000
attribute [local irreducible] Fv Fp

def awS : ByteArray := ⟨#[83, 116, 97, 116, 117, 115, 58, 32, 49, 52, 10, 109, 101, 115, 115, 97, 103, 101, 58, 32, 97, 37, 50, 53, 98, 10, 112, 117, 115, 104, 98, 97, 99, 107, 58, 32, 52, 48, 10]⟩
theorem aw_lines : linesL awS.data.toList = [[83, 116, 97, 116, 117, 115, 58, 32, 49, 52, 10], [109, 101, 115, 115, 97, 103, 101, 58, 32, 97, 37, 50, 53, 98, 10], [112, 117, 115, 104, 98, 97, 99, 107, 58, 32, 52, 48, 10]] := by decide +kernel
theorem aw_cut1 : cutL (strL [83, 116, 97, 116, 117, 115, 58, 32, 49, 52, 10]) = ([83, 116, 97, 116, 117, 115], [49, 52], true) := by decide +kernel
theorem aw_cut2 : cutL (strL [109, 101, 115, 115, 97, 103, 101, 58, 32, 97, 37, 50, 53, 98, 10]) = ([109, 101, 115, 115, 97, 103, 101], [97, 37, 50, 53, 98], true) := by decide +kernel
theorem aw_cut3 : cutL (strL [112, 117, 115, 104, 98, 97, 99, 107, 58, 32, 52, 48, 10]) = ([112, 117, 115, 104, 98, 97, 99, 107], [52, 48], true) := by decide +kernel
theorem aw_k1 : kindN [83, 116, 97, 116, 117, 115] = 0 := by decide +kernel
theorem aw_k2 : kindN [109, 101, 115, 115, 97, 103, 101] = 1 := by decide +kernel
theorem aw_k3 : kindN [112, 117, 115, 104, 98, 97, 99, 107] = 2 := by decide +kernel
theorem aw_v1 : codeI [49, 52] = 14 := by decide +kernel
theorem aw_v2 : unqL [97, 37, 50, 53, 98] = [97, 37, 98] := by decide +kernel
theorem aw_v3 : numI [52, 48] 7 = 40 := by decide +kernel
theorem aw_parse : parseT awS = (⟨14, ⟨#[97, 37, 98]⟩, 40⟩, 0, 0) := by
  unfold parseT linesB
  rw [aw_lines]
  simp only [List.map_cons, List.map_nil]
  rw [parseP, aw_cut1]
  simp only [aw_k1, aw_v1, Bool.true_eq_false, if_false, if_true, Bool.false_eq_true]
  rw [parseP, aw_cut2]
  simp only [aw_k2, aw_v2, Bool.true_eq_false, if_false, if_true, Bool.false_eq_true, Nat.one_ne_zero]
  rw [parseP, aw_cut3]
  simp only [aw_k3, aw_v3, Bool.true_eq_false, if_false, if_true, Bool.false_eq_true, show ¬ (2 : Nat) = 0 from by decide, show ¬ (2 : Nat) = 1 from by decide]
  rw [parseP]
  rfl
theorem aw_quote : strL (quoteL [97, 37, 98, 10]) = ⟨#[97, 37, 50, 53, 98, 37, 48, 65]⟩ := by kernel_rfl
theorem aw_walk (q : Trl × Int × Int) (x : ByteArray) (n1 : Fv Tryd.prog 7 [.str awS] (resG q)) (n2 : Fv Tryd.prog 10 [.str ⟨#[97, 37, 98, 10]⟩] (.str x))
    (b1 : strEq x ⟨#[97, 37, 50, 53, 98, 37, 48, 65]⟩ = true) (b2 : (q.2.2 == 0) = true) (b3 : (q.2.1 == 0) = true) (b4 : (q.1.code == 14 && (strEq q.1.msg ⟨#[97, 37, 98]⟩ && (q.1.push == 40 && true))) = true) : Fv Tryd.prog 4 [] (.bool true) := by
  refine Fv.of_awp Tryd.func4 rfl (by kernel_rfl) rfl (Nat.le_of_ble_eq_true rfl) ?_
  repeat' (conv => whnf
           first
           | (refine And.intro (Or.inl (by kernel_rfl)) ?_)
           | (refine And.intro (by kernel_rfl) ?_)
           | (refine And.intro ⟨by kernel_rfl, by kernel_rfl⟩ ?_)
           | (refine Or.inl ⟨_, n1, ?_⟩)
           | (refine ⟨_, n1, ?_⟩)
           | (refine Or.inl ⟨_, n2, ?_⟩)
           | (refine ⟨_, n2, ?_⟩)
           | (refine cond_1 b1 ?_)
           | (refine cond_1 b2 ?_)
           | (refine cond_1 b3 ?_)
           | (refine cond_f ?_ ?_)
           | (refine ⟨_, ⟨by decide, rfl⟩, ?_⟩)
           | (refine cond_i (fun h => ?_) (fun h => ?_)))
  all_goals (conv => whnf)
  all_goals exact congrArg G.bool b4
theorem law37_awake : Fv Tryd.prog 4 [] (.bool true) := by
  refine aw_walk _ _ (hd_Parse awS (by decide)) (hd_Quote ⟨#[97, 37, 98, 10]⟩ (by decide)) ?_ ?_ ?_ ?_
  · rw [show (⟨#[97, 37, 98, 10]⟩ : ByteArray).data.toList = [97, 37, 98, 10] from rfl, aw_quote]; exact strEq_self _
  · rw [aw_parse]; rfl
  · rw [aw_parse]; rfl
  · rw [aw_parse]
    have e : strEq ⟨#[97, 37, 98]⟩ ⟨#[97, 37, 98]⟩ = true := strEq_self _
    simp only [e]
    rfl
end Go.Proofs.YtijohhdgecadnaaDoor.Cn
namespace Go.Proofs.YtijohhdgecadnaaDoor.Cn
open Go Go.Proofs Go.Proofs.YtijohhdgecadnaaDoor.Av Go.Proofs.YtijohhdgecadnaaDoor.Sp Go.RowKit
set_option linter.unusedVariables false
set_option linter.unusedSimpArgs false
set_option linter.unusedSectionVars false
set_option maxRecDepth 100000

theorem tab_of37 {w : World} {ex : Nat → Prop} (h : Fixed w ex) : Lib.TabIs Tryd.prog w "internal/strconv.uint64pow10" .u64 Lib.pow10Tab := by
  obtain ⟨_, _, T, fz, h3⟩ := h.tab (1, _) (List.mem_singleton.2 rfl)
  unfold Lib.TabIs World.var?
  rw [show Tryd.prog.globalNamed "internal/strconv.uint64pow10" = some 1 from by kernel_rfl]
  simp only [Option.bind_some]
  rw [h3]
  rfl
theorem hd_Itoa (n : Int) (h : -9223372036854775808 ≤ n ∧ n ≤ 9223372036854775807) : Fv Tryd.prog 11 [.int .i64 n] (.str (strL (Lib.itoa n))) := by
  refine Fv.of_calls (by kernel_rfl) fun C w vs hl hr hfx => ?_
  match vs, hl with
  | [v], _ =>
    obtain rfl := (hr 0 _ v rfl rfl).int_inv
    exact (Tryd.strconv_Itoa n h.1 h.2 w (tab_of37 hfx)).mono fun e w' ⟨he, k, os, hw⟩ => ⟨_, he, .str _, by rw [hw]; exact below_grown w k os⟩
attribute [local irreducible] Fv Fp
theorem itoa_sz (n : Int) (h : -1 ≤ n ∧ n ≤ 9999999) : (strL (Lib.itoa n)).size ≤ 8 := by
  rw [strL_size]
  unfold Lib.itoa
  split
  · have := dec_len7 6 n.natAbs (by omega)
    simp only [List.length_cons]; omega
  · have := dec_len7 6 n.toNat (by omega)
    omega
theorem ln1 (c : List UInt8) : (⟨#[115, 116, 97, 116, 117, 115, 58, 32]⟩ : ByteArray) ++ strL c ++ ⟨#[10]⟩ = strL (lineL wStatus c) := ext_list (by rw [app_list, app_list]; rfl)
theorem ln2 (c : List UInt8) : (⟨#[109, 101, 115, 115, 97, 103, 101, 58, 32]⟩ : ByteArray) ++ strL c ++ ⟨#[10]⟩ = strL (lineL wMessage c) := ext_list (by rw [app_list, app_list]; rfl)
theorem ln3 (c : List UInt8) : (⟨#[112, 117, 115, 104, 98, 97, 99, 107, 58, 32]⟩ : ByteArray) ++ strL c ++ ⟨#[10]⟩ = strL (lineL wPushback c) := ext_list (by rw [app_list, app_list]; rfl)
theorem strEq_nil (m : ByteArray) : strEq m ⟨#[]⟩ = decide (m.data.toList = []) := by
  have := strEq_strL m.data.toList []
  rwa [strL_eq] at this
def pcE (p : Int) : Int := if 9999999 < (if -1 > p then -1 else p) then 9999999 else if -1 > p then -1 else p
theorem pcE_eq (p : Int) : pcE p = pcI p := by unfold pcE pcI; (repeat' split) <;> omega
def fmtS (b1 b2 : Bool) (x q y : ByteArray) : ByteArray :=
  bif b2 then (bif b1 then (⟨#[115, 116, 97, 116, 117, 115, 58, 32]⟩ : ByteArray) ++ x ++ ⟨#[10]⟩ else ((⟨#[115, 116, 97, 116, 117, 115, 58, 32]⟩ : ByteArray) ++ x ++ ⟨#[10]⟩) ++ ((⟨#[109, 101, 115, 115, 97, 103, 101, 58, 32]⟩ : ByteArray) ++ q ++ ⟨#[10]⟩))
  else (bif b1 then (⟨#[115, 116, 97, 116, 117, 115, 58, 32]⟩ : ByteArray) ++ x ++ ⟨#[10]⟩ else ((⟨#[115, 116, 97, 116, 117, 115, 58, 32]⟩ : ByteArray) ++ x ++ ⟨#[10]⟩) ++ ((⟨#[109, 101, 115, 115, 97, 103, 101, 58, 32]⟩ : ByteArray) ++ q ++ ⟨#[10]⟩)) ++
    ((⟨#[112, 117, 115, 104, 98, 97, 99, 107, 58, 32]⟩ : ByteArray) ++ y ++ ⟨#[10]⟩)
theorem fm_walk (t : Trl) (x q y : ByteArray) (hx : x.size ≤ 8) (hy : y.size ≤ 8) (hq : q.size ≤ 1000) (cc : Int) (n1 : Fv Tryd.prog 9 [.int .i64 t.code] (.int .i64 cc)) (n2 : Fv Tryd.prog 11 [.int .i64 cc] (.str x))
    (n3 : Fv Tryd.prog 10 [.str t.msg] (.str q)) (n4 : Fv Tryd.prog 11 [.int .i64 (pcE t.push)] (.str y)) : Fv Tryd.prog 5 [.agg t.g] (.str (fmtS (strEq t.msg ⟨#[]⟩) (t.push == -2) x q y)) := by
  have z1 : (⟨#[115, 116, 97, 116, 117, 115, 58, 32]⟩ : ByteArray).size = 8 := rfl
  have z2 : (⟨#[109, 101, 115, 115, 97, 103, 101, 58, 32]⟩ : ByteArray).size = 9 := rfl
  have z3 : (⟨#[112, 117, 115, 104, 98, 97, 99, 107, 58, 32]⟩ : ByteArray).size = 10 := rfl
  have z4 : (⟨#[10]⟩ : ByteArray).size = 1 := rfl
  cases h1 : strEq t.msg ⟨#[]⟩ with
  | true =>
    have b1 : (!strEq t.msg ⟨#[]⟩) = false := by rw [h1]; rfl
    cases h2 : (t.push == -2) with
    | true =>
      have b2 : (t.push != -2) = false := by unfold bne; rw [h2]; rfl
      refine Fv.of_awp Tryd.func5 rfl (by kernel_rfl) rfl (Nat.le_of_ble_eq_true rfl) ?_
      repeat' (conv => whnf
               first
               | (refine And.intro (Or.inl (by kernel_rfl)) ?_)
               | (refine And.intro (by kernel_rfl) ?_)
               | (refine And.intro ⟨by kernel_rfl, by kernel_rfl⟩ ?_)
               | (refine Or.inl ⟨_, n1, ?_⟩)
               | (refine ⟨_, n1, ?_⟩)
               | (refine Or.inl ⟨_, n2, ?_⟩)
               | (refine ⟨_, n2, ?_⟩)
               | (refine Or.inl ⟨_, n3, ?_⟩)
               | (refine ⟨_, n3, ?_⟩)
               | (refine sz_ok (by first | omega | (simp only [ByteArray.size_append]; omega)) ?_)
               | (refine cond_0 b1 ?_)
               | (refine cond_0 b2 ?_)
               | (refine cond_f ?_ ?_)
               | (refine ⟨_, ⟨by decide, rfl⟩, ?_⟩)
               | (refine cond_i (fun h => ?_) (fun h => ?_)))
      all_goals (conv => whnf)
      all_goals rfl
    | false =>
      have b2 : (t.push != -2) = true := by unfold bne; rw [h2]; rfl
      refine Fv.of_awp Tryd.func5 rfl (by kernel_rfl) rfl (Nat.le_of_ble_eq_true rfl) ?_
      repeat' (conv => whnf
               first
               | (refine And.intro (Or.inl (by kernel_rfl)) ?_)
               | (refine And.intro (by kernel_rfl) ?_)
               | (refine And.intro ⟨by kernel_rfl, by kernel_rfl⟩ ?_)
               | (refine Or.inl ⟨_, n1, ?_⟩)
               | (refine ⟨_, n1, ?_⟩)
               | (refine Or.inl ⟨_, n2, ?_⟩)
               | (refine ⟨_, n2, ?_⟩)
               | (refine Or.inl ⟨_, n3, ?_⟩)
               | (refine ⟨_, n3, ?_⟩)
               | (refine Or.inl ⟨_, n4, ?_⟩)
               | (refine ⟨_, n4, ?_⟩)
               | (refine sz_ok (by first | omega | (simp only [ByteArray.size_append]; omega)) ?_)
               | (refine cond_0 b1 ?_)
               | (refine cond_1 b2 ?_)
               | (refine cond_f ?_ ?_)
               | (refine ⟨_, ⟨by decide, rfl⟩, ?_⟩)
               | (refine cond_i (fun h => ?_) (fun h => ?_)))
      all_goals (conv => whnf)
      all_goals rfl
  | false =>
    have b1 : (!strEq t.msg ⟨#[]⟩) = true := by rw [h1]; rfl
    cases h2 : (t.push == -2) with
    | true =>
      have b2 : (t.push != -2) = false := by unfold bne; rw [h2]; rfl
      refine Fv.of_awp Tryd.func5 rfl (by kernel_rfl) rfl (Nat.le_of_ble_eq_true rfl) ?_
      repeat' (conv => whnf
               first
               | (refine And.intro (Or.inl (by kernel_rfl)) ?_)
               | (refine And.intro (by kernel_rfl) ?_)
               | (refine And.intro ⟨by kernel_rfl, by kernel_rfl⟩ ?_)
               | (refine Or.inl ⟨_, n1, ?_⟩)
               | (refine ⟨_, n1, ?_⟩)
               | (refine Or.inl ⟨_, n2, ?_⟩)
               | (refine ⟨_, n2, ?_⟩)
               | (refine Or.inl ⟨_, n3, ?_⟩)
               | (refine ⟨_, n3, ?_⟩)
               | (refine sz_ok (by first | omega | (simp only [ByteArray.size_append]; omega)) ?_)
               | (refine cond_1 b1 ?_)
               | (refine cond_0 b2 ?_)
               | (refine cond_f ?_ ?_)
               | (refine ⟨_, ⟨by decide, rfl⟩, ?_⟩)
               | (refine cond_i (fun h => ?_) (fun h => ?_)))
      all_goals (conv => whnf)
      all_goals rfl
    | false =>
      have b2 : (t.push != -2) = true := by unfold bne; rw [h2]; rfl
      refine Fv.of_awp Tryd.func5 rfl (by kernel_rfl) rfl (Nat.le_of_ble_eq_true rfl) ?_
      repeat' (conv => whnf
               first
               | (refine And.intro (Or.inl (by kernel_rfl)) ?_)
               | (refine And.intro (by kernel_rfl) ?_)
               | (refine And.intro ⟨by kernel_rfl, by kernel_rfl⟩ ?_)
               | (refine Or.inl ⟨_, n1, ?_⟩)
               | (refine ⟨_, n1, ?_⟩)
               | (refine Or.inl ⟨_, n2, ?_⟩)
               | (refine ⟨_, n2, ?_⟩)
               | (refine Or.inl ⟨_, n3, ?_⟩)
               | (refine ⟨_, n3, ?_⟩)
               | (refine Or.inl ⟨_, n4, ?_⟩)
               | (refine ⟨_, n4, ?_⟩)
               | (refine sz_ok (by first | omega | (simp only [ByteArray.size_append]; omega)) ?_)
               | (refine cond_1 b1 ?_)
               | (refine cond_1 b2 ?_)
               | (refine cond_f ?_ ?_)
               | (refine ⟨_, ⟨by decide, rfl⟩, ?_⟩)
               | (refine cond_i (fun h => ?_) (fun h => ?_)))
      all_goals (conv => whnf)
      all_goals rfl
theorem fmtS_eq (c : Int) (m : ByteArray) (p : Int) : fmtS (strEq m ⟨#[]⟩) (p == -2) (strL (Lib.itoa c)) (strL (quoteL m.data.toList)) (strL (Lib.itoa (pcI p))) = strL (fmtL c m.data.toList p) := by
  unfold fmtS fmtL
  rw [strEq_nil, ln1, ln2, ln3, show (p == -2) = decide (p = -2) from rfl]
  by_cases h1 : m.data.toList = [] <;> by_cases h2 : p = -2
  · simp only [h1, h2, decide_true, cond_true, if_true, List.append_nil, List.nil_append]
  · simp only [h1, h2, decide_true, decide_false, cond_true, cond_false, if_true, if_false, List.nil_append, strL_app]
  · simp only [h1, h2, decide_true, decide_false, cond_true, cond_false, if_true, if_false, List.append_nil, strL_app]
  · simp only [h1, h2, decide_false, cond_false, if_false, strL_app, List.append_assoc]
theorem quote_sz (m : ByteArray) (h : m.size ≤ 300) : (strL (quoteL m.data.toList)).size ≤ 1000 := by
  have := (quoteL_len m.data.toList).2
  rw [size_list] at this
  rw [strL_size]; omega
theorem hd_Format (t : Trl) (h : t.msg.size ≤ 300) : Fv Tryd.prog 5 [.agg t.g] (.str (strL (fmtL (clean t.code) t.msg.data.toList t.push))) := by
  have hc := clean_bd t.code
  have hp := pcI_bd t.push
  rw [← fmtS_eq, ← pcE_eq]
  rw [← pcE_eq] at hp
  exact fm_walk t _ _ _ (itoa_sz _ (by omega)) (itoa_sz _ hp) (quote_sz _ h) _ (code_Clean t.code) (hd_Itoa _ (by omega)) (hd_Quote t.msg (by omega)) (hd_Itoa _ (by omega))
theorem digits_m1 (x : ByteArray) (hx : x.size ≤ 20) (n1 : Fv Tryd.prog 17 [.int .i64 1] (.str x)) : Fv Tryd.prog 17 [.int .i64 (-1)] (.str (⟨#[45]⟩ ++ x)) := by
  have z0 : (⟨#[45]⟩ : ByteArray).size = 1 := rfl
  refine Fv.of_awp Tryd.func17 rfl (by kernel_rfl) rfl (Nat.le_of_ble_eq_true rfl) ?_
  repeat' (conv => whnf
           first
           | (refine And.intro (Or.inl (by kernel_rfl)) ?_)
           | (refine And.intro (by kernel_rfl) ?_)
           | (refine And.intro ⟨by kernel_rfl, by kernel_rfl⟩ ?_)
           | (refine Or.inl ⟨_, n1, ?_⟩)
           | (refine ⟨_, n1, ?_⟩)
           | (refine sz_ok (by first | omega | (simp only [ByteArray.size_append]; omega)) ?_)
           | (refine cond_f ?_ ?_)
           | (refine ⟨_, ⟨by decide, rfl⟩, ?_⟩)
           | (refine cond_i (fun h => ?_) (fun h => ?_)))
  all_goals (conv => whnf)
  all_goals rfl
theorem r06_Digits (n : Int) (h : -1 ≤ n ∧ n ≤ 9999999) : Fv Tryd.prog 17 [.int .i64 n] (.str (strL (Lib.itoa n))) := by
  by_cases h0 : n < 0
  · obtain rfl : n = -1 := by omega
    have n1 := ref06_Nat 1 (by omega)
    have := digits_m1 _ (by rw [strL_size, dec_small (by omega)]; decide) n1
    have e : (⟨#[45]⟩ : ByteArray) ++ strL (Lib.decDigits 1) = strL (Lib.itoa (-1)) := by
      unfold Lib.itoa; rw [if_pos (by omega)]; exact ext_list (by rw [app_list]; rfl)
    rwa [e] at this
  · have := ref06_Nat n.toNat (by omega)
    unfold Lib.itoa
    rw [if_neg h0]
    rwa [show ((n.toNat : Nat) : Int) = n from by omega] at this
end Go.Proofs.YtijohhdgecadnaaDoor.Cn
namespace Go.Proofs.YtijohhdgecadnaaDoor.Cn
open Go Go.Proofs Go.Proofs.YtijohhdgecadnaaDoor.Av Go.Proofs.YtijohhdgecadnaaDoor.Sp Go.RowKit
set_option linter.unusedVariables false
set_option linter.unusedSimpArgs false
set_option linter.unusedSectionVars false
set_option maxRecDepth 100000
attribute [local irreducible] Fv Fp

abbrev kS : ByteArray := ⟨#[115, 116, 97, 116, 117, 115, 58, 32]⟩
abbrev kM : ByteArray := ⟨#[109, 101, 115, 115, 97, 103, 101, 58, 32]⟩
abbrev kP : ByteArray := ⟨#[112, 117, 115, 104, 98, 97, 99, 107, 58, 32]⟩
abbrev kN : ByteArray := ⟨#[10]⟩
def fmtR (b1 b2 : Bool) (x q y : ByteArray) : ByteArray :=
  bif b2 then (bif b1 then kS ++ x ++ kN else kS ++ x ++ kN ++ kM ++ q ++ kN) else (bif b1 then kS ++ x ++ kN else kS ++ x ++ kN ++ kM ++ q ++ kN) ++ kP ++ y ++ kN
theorem fmtR_eq (b1 b2 : Bool) (x q y : ByteArray) : fmtR b1 b2 x q y = fmtS b1 b2 x q y := by
  unfold fmtR fmtS
  cases b1 <;> cases b2 <;> simp only [cond_true, cond_false, ByteArray.append_assoc]
section
variable (t : Trl) (x q y : ByteArray) (hx : x.size ≤ 8) (hy : y.size ≤ 8) (hq : q.size ≤ 1000) (cc : Int) (n1 : Fv Tryd.prog 18 [.int .i64 t.code] (.int .i64 cc)) (n2 : Fv Tryd.prog 17 [.int .i64 cc] (.str x))
  (n3 : Fv Tryd.prog 19 [.str t.msg] (.str q))
include hx hy hq n1 n2 n3
theorem rf_0q (h1 : t.msg.size = 0) (h2 : t.push = -2) : Fv Tryd.prog 8 [.agg t.g] (.str (fmtR true true x q y)) := by
  have z1 : (⟨#[115, 116, 97, 116, 117, 115, 58, 32]⟩ : ByteArray).size = 8 := rfl
  have z2 : (⟨#[109, 101, 115, 115, 97, 103, 101, 58, 32]⟩ : ByteArray).size = 9 := rfl
  have z3 : (⟨#[112, 117, 115, 104, 98, 97, 99, 107, 58, 32]⟩ : ByteArray).size = 10 := rfl
  have z4 : (⟨#[10]⟩ : ByteArray).size = 1 := rfl
  have b1 : decide ((t.msg.size : Int) > 0) = false := decide_eq_false (by omega)
  have b2 : (t.push == -2) = true := by rw [h2]; rfl
  refine Fv.of_awp Tryd.func8 rfl (by kernel_rfl) rfl (Nat.le_of_ble_eq_true rfl) ?_
  repeat' (conv => whnf
           first
           | (refine And.intro (Or.inl (by kernel_rfl)) ?_)
           | (refine And.intro (by kernel_rfl) ?_)
           | (refine And.intro ⟨by kernel_rfl, by kernel_rfl⟩ ?_)
           | (refine Or.inl ⟨_, n1, ?_⟩)
           | (refine ⟨_, n1, ?_⟩)
           | (refine Or.inl ⟨_, n2, ?_⟩)
           | (refine ⟨_, n2, ?_⟩)
           | (refine Or.inl ⟨_, n3, ?_⟩)
           | (refine ⟨_, n3, ?_⟩)
           | (refine sz_ok (by first | omega | (simp only [ByteArray.size_append]; omega)) ?_)
           | (refine cond_0 b1 ?_)
           | (refine cond_1 b2 ?_)
           | (refine cond_f ?_ ?_)
           | (refine ⟨_, ⟨by decide, rfl⟩, ?_⟩)
           | (refine cond_i (fun h => ?_) (fun h => ?_)))
  all_goals (conv => whnf)
  all_goals rfl
theorem rf_0a (h1 : t.msg.size = 0) (h2 : ¬ t.push = -2) (h3 : t.push < -1) (n4 : Fv Tryd.prog 17 [.int .i64 (-1)] (.str y)) : Fv Tryd.prog 8 [.agg t.g] (.str (fmtR true false x q y)) := by
  have z1 : (⟨#[115, 116, 97, 116, 117, 115, 58, 32]⟩ : ByteArray).size = 8 := rfl
  have z2 : (⟨#[109, 101, 115, 115, 97, 103, 101, 58, 32]⟩ : ByteArray).size = 9 := rfl
  have z3 : (⟨#[112, 117, 115, 104, 98, 97, 99, 107, 58, 32]⟩ : ByteArray).size = 10 := rfl
  have z4 : (⟨#[10]⟩ : ByteArray).size = 1 := rfl
  have b1 : decide ((t.msg.size : Int) > 0) = false := decide_eq_false (by omega)
  have b2 : (t.push == -2) = false := by simp only [beq_eq_false_iff_ne, ne_eq]; omega
  have b3 : decide (t.push < -1) = true := decide_eq_true h3
  have b4 : decide ((-1 : Int) > 9999999) = false := by decide
  refine Fv.of_awp Tryd.func8 rfl (by kernel_rfl) rfl (Nat.le_of_ble_eq_true rfl) ?_
  repeat' (conv => whnf
           first
           | (refine And.intro (Or.inl (by kernel_rfl)) ?_)
           | (refine And.intro (by kernel_rfl) ?_)
           | (refine And.intro ⟨by kernel_rfl, by kernel_rfl⟩ ?_)
           | (refine Or.inl ⟨_, n1, ?_⟩)
           | (refine ⟨_, n1, ?_⟩)
           | (refine Or.inl ⟨_, n2, ?_⟩)
           | (refine ⟨_, n2, ?_⟩)
           | (refine Or.inl ⟨_, n3, ?_⟩)
           | (refine ⟨_, n3, ?_⟩)
           | (refine sz_ok (by first | omega | (simp only [ByteArray.size_append]; omega)) ?_)
           | (refine cond_0 b1 ?_)
           | (refine cond_0 b2 ?_)
           | (refine Or.inl ⟨_, n4, ?_⟩)
           | (refine ⟨_, n4, ?_⟩)
           | (refine cond_1 b3 ?_)
           | (refine cond_0 b4 ?_)
           | (refine cond_f ?_ ?_)
           | (refine ⟨_, ⟨by decide, rfl⟩, ?_⟩)
           | (refine cond_i (fun h => ?_) (fun h => ?_)))
  all_goals (conv => whnf)
  all_goals rfl
theorem rf_0b (h1 : t.msg.size = 0) (h3 : t.push > 9999999) (n4 : Fv Tryd.prog 17 [.int .i64 9999999] (.str y)) : Fv Tryd.prog 8 [.agg t.g] (.str (fmtR true false x q y)) := by
  have z1 : (⟨#[115, 116, 97, 116, 117, 115, 58, 32]⟩ : ByteArray).size = 8 := rfl
  have z2 : (⟨#[109, 101, 115, 115, 97, 103, 101, 58, 32]⟩ : ByteArray).size = 9 := rfl
  have z3 : (⟨#[112, 117, 115, 104, 98, 97, 99, 107, 58, 32]⟩ : ByteArray).size = 10 := rfl
  have z4 : (⟨#[10]⟩ : ByteArray).size = 1 := rfl
  have b1 : decide ((t.msg.size : Int) > 0) = false := decide_eq_false (by omega)
  have b2 : (t.push == -2) = false := by simp only [beq_eq_false_iff_ne, ne_eq]; omega
  have b3 : decide (t.push < -1) = false := decide_eq_false (by omega)
  have b4 : decide (t.push > 9999999) = true := decide_eq_true h3
  refine Fv.of_awp Tryd.func8 rfl (by kernel_rfl) rfl (Nat.le_of_ble_eq_true rfl) ?_
  repeat' (conv => whnf
           first
           | (refine And.intro (Or.inl (by kernel_rfl)) ?_)
           | (refine And.intro (by kernel_rfl) ?_)
           | (refine And.intro ⟨by kernel_rfl, by kernel_rfl⟩ ?_)
           | (refine Or.inl ⟨_, n1, ?_⟩)
           | (refine ⟨_, n1, ?_⟩)
           | (refine Or.inl ⟨_, n2, ?_⟩)
           | (refine ⟨_, n2, ?_⟩)
           | (refine Or.inl ⟨_, n3, ?_⟩)
           | (refine ⟨_, n3, ?_⟩)
           | (refine sz_ok (by first | omega | (simp only [ByteArray.size_append]; omega)) ?_)
           | (refine cond_0 b1 ?_)
           | (refine cond_0 b2 ?_)
           | (refine Or.inl ⟨_, n4, ?_⟩)
           | (refine ⟨_, n4, ?_⟩)
           | (refine cond_0 b3 ?_)
           | (refine cond_1 b4 ?_)
           | (refine cond_f ?_ ?_)
           | (refine ⟨_, ⟨by decide, rfl⟩, ?_⟩)
           | (refine cond_i (fun h => ?_) (fun h => ?_)))
  all_goals (conv => whnf)
  all_goals rfl
theorem rf_0c (h1 : t.msg.size = 0) (h3 : -1 ≤ t.push ∧ t.push ≤ 9999999) (n4 : Fv Tryd.prog 17 [.int .i64 t.push] (.str y)) : Fv Tryd.prog 8 [.agg t.g] (.str (fmtR true false x q y)) := by
  have z1 : (⟨#[115, 116, 97, 116, 117, 115, 58, 32]⟩ : ByteArray).size = 8 := rfl
  have z2 : (⟨#[109, 101, 115, 115, 97, 103, 101, 58, 32]⟩ : ByteArray).size = 9 := rfl
  have z3 : (⟨#[112, 117, 115, 104, 98, 97, 99, 107, 58, 32]⟩ : ByteArray).size = 10 := rfl
  have z4 : (⟨#[10]⟩ : ByteArray).size = 1 := rfl
  have b1 : decide ((t.msg.size : Int) > 0) = false := decide_eq_false (by omega)
  have b2 : (t.push == -2) = false := by simp only [beq_eq_false_iff_ne, ne_eq]; omega
  have b3 : decide (t.push < -1) = false := decide_eq_false (by omega)
  have b4 : decide (t.push > 9999999) = false := decide_eq_false (by omega)
  refine Fv.of_awp Tryd.func8 rfl (by kernel_rfl) rfl (Nat.le_of_ble_eq_true rfl) ?_
  repeat' (conv => whnf
           first
           | (refine And.intro (Or.inl (by kernel_rfl)) ?_)
           | (refine And.intro (by kernel_rfl) ?_)
           | (refine And.intro ⟨by kernel_rfl, by kernel_rfl⟩ ?_)
           | (refine Or.inl ⟨_, n1, ?_⟩)
           | (refine ⟨_, n1, ?_⟩)
           | (refine Or.inl ⟨_, n2, ?_⟩)
           | (refine ⟨_, n2, ?_⟩)
           | (refine Or.inl ⟨_, n3, ?_⟩)
           | (refine ⟨_, n3, ?_⟩)
           | (refine sz_ok (by first | omega | (simp only [ByteArray.size_append]; omega)) ?_)
           | (refine cond_0 b1 ?_)
           | (refine cond_0 b2 ?_)
           | (refine Or.inl ⟨_, n4, ?_⟩)
           | (refine ⟨_, n4, ?_⟩)
           | (refine cond_0 b3 ?_)
           | (refine cond_0 b4 ?_)
           | (refine cond_f ?_ ?_)
           | (refine ⟨_, ⟨by decide, rfl⟩, ?_⟩)
           | (refine cond_i (fun h => ?_) (fun h => ?_)))
  all_goals (conv => whnf)
  all_goals rfl
theorem rf_1q (h1 : ¬ t.msg.size = 0) (h2 : t.push = -2) : Fv Tryd.prog 8 [.agg t.g] (.str (fmtR false true x q y)) := by
  have z1 : (⟨#[115, 116, 97, 116, 117, 115, 58, 32]⟩ : ByteArray).size = 8 := rfl
  have z2 : (⟨#[109, 101, 115, 115, 97, 103, 101, 58, 32]⟩ : ByteArray).size = 9 := rfl
  have z3 : (⟨#[112, 117, 115, 104, 98, 97, 99, 107, 58, 32]⟩ : ByteArray).size = 10 := rfl
  have z4 : (⟨#[10]⟩ : ByteArray).size = 1 := rfl
  have b1 : decide ((t.msg.size : Int) > 0) = true := decide_eq_true (by omega)
  have b2 : (t.push == -2) = true := by rw [h2]; rfl
  refine Fv.of_awp Tryd.func8 rfl (by kernel_rfl) rfl (Nat.le_of_ble_eq_true rfl) ?_
  repeat' (conv => whnf
           first
           | (refine And.intro (Or.inl (by kernel_rfl)) ?_)
           | (refine And.intro (by kernel_rfl) ?_)
           | (refine And.intro ⟨by kernel_rfl, by kernel_rfl⟩ ?_)
           | (refine Or.inl ⟨_, n1, ?_⟩)
           | (refine ⟨_, n1, ?_⟩)
           | (refine Or.inl ⟨_, n2, ?_⟩)
           | (refine ⟨_, n2, ?_⟩)
           | (refine Or.inl ⟨_, n3, ?_⟩)
           | (refine ⟨_, n3, ?_⟩)
           | (refine sz_ok (by first | omega | (simp only [ByteArray.size_append]; omega)) ?_)
           | (refine cond_1 b1 ?_)
           | (refine cond_1 b2 ?_)
           | (refine cond_f ?_ ?_)
           | (refine ⟨_, ⟨by decide, rfl⟩, ?_⟩)
           | (refine cond_i (fun h => ?_) (fun h => ?_)))
  all_goals (conv => whnf)
  all_goals rfl
theorem rf_1a (h1 : ¬ t.msg.size = 0) (h2 : ¬ t.push = -2) (h3 : t.push < -1) (n4 : Fv Tryd.prog 17 [.int .i64 (-1)] (.str y)) : Fv Tryd.prog 8 [.agg t.g] (.str (fmtR false false x q y)) := by
  have z1 : (⟨#[115, 116, 97, 116, 117, 115, 58, 32]⟩ : ByteArray).size = 8 := rfl
  have z2 : (⟨#[109, 101, 115, 115, 97, 103, 101, 58, 32]⟩ : ByteArray).size = 9 := rfl
  have z3 : (⟨#[112, 117, 115, 104, 98, 97, 99, 107, 58, 32]⟩ : ByteArray).size = 10 := rfl
  have z4 : (⟨#[10]⟩ : ByteArray).size = 1 := rfl
  have b1 : decide ((t.msg.size : Int) > 0) = true := decide_eq_true (by omega)
  have b2 : (t.push == -2) = false := by simp only [beq_eq_false_iff_ne, ne_eq]; omega
  have b3 : decide (t.push < -1) = true := decide_eq_true h3
  have b4 : decide ((-1 : Int) > 9999999) = false := by decide
  refine Fv.of_awp Tryd.func8 rfl (by kernel_rfl) rfl (Nat.le_of_ble_eq_true rfl) ?_
  repeat' (conv => whnf
           first
           | (refine And.intro (Or.inl (by kernel_rfl)) ?_)
           | (refine And.intro (by kernel_rfl) ?_)
           | (refine And.intro ⟨by kernel_rfl, by kernel_rfl⟩ ?_)
           | (refine Or.inl ⟨_, n1, ?_⟩)
           | (refine ⟨_, n1, ?_⟩)
           | (refine Or.inl ⟨_, n2, ?_⟩)
           | (refine ⟨_, n2, ?_⟩)
           | (refine Or.inl ⟨_, n3, ?_⟩)
           | (refine ⟨_, n3, ?_⟩)
           | (refine sz_ok (by first | omega | (simp only [ByteArray.size_append]; omega)) ?_)
           | (refine cond_1 b1 ?_)
           | (refine cond_0 b2 ?_)
           | (refine Or.inl ⟨_, n4, ?_⟩)
           | (refine ⟨_, n4, ?_⟩)
           | (refine cond_1 b3 ?_)
           | (refine cond_0 b4 ?_)
           | (refine cond_f ?_ ?_)
           | (refine ⟨_, ⟨by decide, rfl⟩, ?_⟩)
           | (refine cond_i (fun h => ?_) (fun h => ?_)))
  all_goals (conv => whnf)
  all_goals rfl
theorem rf_1b (h1 : ¬ t.msg.size = 0) (h3 : t.push > 9999999) (n4 : Fv Tryd.prog 17 [.int .i64 9999999] (.str y)) : Fv Tryd.prog 8 [.agg t.g] (.str (fmtR false false x q y)) := by
  have z1 : (⟨#[115, 116, 97, 116, 117, 115, 58, 32]⟩ : ByteArray).size = 8 := rfl
  have z2 : (⟨#[109, 101, 115, 115, 97, 103, 101, 58, 32]⟩ : ByteArray).size = 9 := rfl
  have z3 : (⟨#[112, 117, 115, 104, 98, 97, 99, 107, 58, 32]⟩ : ByteArray).size = 10 := rfl
  have z4 : (⟨#[10]⟩ : ByteArray).size = 1 := rfl
  have b1 : decide ((t.msg.size : Int) > 0) = true := decide_eq_true (by omega)
  have b2 : (t.push == -2) = false := by simp only [beq_eq_false_iff_ne, ne_eq]; omega
  have b3 : decide (t.push < -1) = false := decide_eq_false (by omega)
  have b4 : decide (t.push > 9999999) = true := decide_eq_true h3
  refine Fv.of_awp Tryd.func8 rfl (by kernel_rfl) rfl (Nat.le_of_ble_eq_true rfl) ?_
  repeat' (conv => whnf
           first
           | (refine And.intro (Or.inl (by kernel_rfl)) ?_)
           | (refine And.intro (by kernel_rfl) ?_)
           | (refine And.intro ⟨by kernel_rfl, by kernel_rfl⟩ ?_)
           | (refine Or.inl ⟨_, n1, ?_⟩)
           | (refine ⟨_, n1, ?_⟩)
           | (refine Or.inl ⟨_, n2, ?_⟩)
           | (refine ⟨_, n2, ?_⟩)
           | (refine Or.inl ⟨_, n3, ?_⟩)
           | (refine ⟨_, n3, ?_⟩)
           | (refine sz_ok (by first | omega | (simp only [ByteArray.size_append]; omega)) ?_)
           | (refine cond_1 b1 ?_)
           | (refine cond_0 b2 ?_)
           | (refine Or.inl ⟨_, n4, ?_⟩)
           | (refine ⟨_, n4, ?_⟩)
           | (refine cond_0 b3 ?_)
           | (refine cond_1 b4 ?_)
           | (refine cond_f ?_ ?_)
           | (refine ⟨_, ⟨by decide, rfl⟩, ?_⟩)
           | (refine cond_i (fun h => ?_) (fun h => ?_)))
  all_goals (conv => whnf)
  all_goals rfl
theorem rf_1c (h1 : ¬ t.msg.size = 0) (h3 : -1 ≤ t.push ∧ t.push ≤ 9999999) (n4 : Fv Tryd.prog 17 [.int .i64 t.push] (.str y)) : Fv Tryd.prog 8 [.agg t.g] (.str (fmtR false false x q y)) := by
  have z1 : (⟨#[115, 116, 97, 116, 117, 115, 58, 32]⟩ : ByteArray).size = 8 := rfl
  have z2 : (⟨#[109, 101, 115, 115, 97, 103, 101, 58, 32]⟩ : ByteArray).size = 9 := rfl
  have z3 : (⟨#[112, 117, 115, 104, 98, 97, 99, 107, 58, 32]⟩ : ByteArray).size = 10 := rfl
  have z4 : (⟨#[10]⟩ : ByteArray).size = 1 := rfl
  have b1 : decide ((t.msg.size : Int) > 0) = true := decide_eq_true (by omega)
  have b2 : (t.push == -2) = false := by simp only [beq_eq_false_iff_ne, ne_eq]; omega
  have b3 : decide (t.push < -1) = false := decide_eq_false (by omega)
  have b4 : decide (t.push > 9999999) = false := decide_eq_false (by omega)
  refine Fv.of_awp Tryd.func8 rfl (by kernel_rfl) rfl (Nat.le_of_ble_eq_true rfl) ?_
  repeat' (conv => whnf
           first
           | (refine And.intro (Or.inl (by kernel_rfl)) ?_)
           | (refine And.intro (by kernel_rfl) ?_)
           | (refine And.intro ⟨by kernel_rfl, by kernel_rfl⟩ ?_)
           | (refine Or.inl ⟨_, n1, ?_⟩)
           | (refine ⟨_, n1, ?_⟩)
           | (refine Or.inl ⟨_, n2, ?_⟩)
           | (refine ⟨_, n2, ?_⟩)
           | (refine Or.inl ⟨_, n3, ?_⟩)
           | (refine ⟨_, n3, ?_⟩)
           | (refine sz_ok (by first | omega | (simp only [ByteArray.size_append]; omega)) ?_)
           | (refine cond_1 b1 ?_)
           | (refine cond_0 b2 ?_)
           | (refine Or.inl ⟨_, n4, ?_⟩)
           | (refine ⟨_, n4, ?_⟩)
           | (refine cond_0 b3 ?_)
           | (refine cond_0 b4 ?_)
           | (refine cond_f ?_ ?_)
           | (refine ⟨_, ⟨by decide, rfl⟩, ?_⟩)
           | (refine cond_i (fun h => ?_) (fun h => ?_)))
  all_goals (conv => whnf)
  all_goals rfl
end
theorem r37_Format (t : Trl) (h : t.msg.size ≤ 300) : Fv Tryd.prog 8 [.agg t.g] (.str (strL (fmtL (clean t.code) t.msg.data.toList t.push))) := by
  have hc := clean_bd t.code
  have hp := pcI_bd t.push
  rw [← fmtS_eq, ← fmtR_eq, strEq_nil, show (t.push == -2) = decide (t.push = -2) from rfl]
  have he : (t.msg.data.toList = []) ↔ t.msg.size = 0 := by rw [← size_list]; exact List.length_eq_zero_iff.symm
  have n1 := ref05_Clean t.code
  have n2 := r06_Digits (clean t.code) (by omega)
  have n3 := r37_Quote t.msg (by omega)
  have n4 := r06_Digits (pcI t.push) hp
  have s1 := itoa_sz (clean t.code) (by omega)
  have s2 := itoa_sz (pcI t.push) hp
  have s3 := quote_sz t.msg h
  have key : t.push = -2 ∨ (¬ t.push = -2 ∧ t.push < -1 ∧ pcI t.push = -1) ∨ (t.push > 9999999 ∧ pcI t.push = 9999999) ∨ ((-1 ≤ t.push ∧ t.push ≤ 9999999) ∧ pcI t.push = t.push) := by
    unfold pcI; (repeat' split) <;> omega
  by_cases h1 : t.msg.size = 0
  · rw [decide_eq_true (he.2 h1)]
    rcases key with h2 | ⟨h2, h3, h4⟩ | ⟨h3, h4⟩ | ⟨h3, h4⟩
    · rw [decide_eq_true h2]; exact rf_0q t _ _ _ s1 s2 s3 _ n1 n2 n3 h1 h2
    · rw [decide_eq_false h2]; rw [h4] at n4 s2 ⊢; exact rf_0a t _ _ _ s1 s2 s3 _ n1 n2 n3 h1 h2 h3 n4
    · rw [decide_eq_false (by omega)]; rw [h4] at n4 s2 ⊢; exact rf_0b t _ _ _ s1 s2 s3 _ n1 n2 n3 h1 h3 n4
    · rw [decide_eq_false (by omega)]; rw [h4] at n4 s2 ⊢; exact rf_0c t _ _ _ s1 s2 s3 _ n1 n2 n3 h1 h3 n4
  · rw [decide_eq_false (fun e => h1 (he.1 e))]
    rcases key with h2 | ⟨h2, h3, h4⟩ | ⟨h3, h4⟩ | ⟨h3, h4⟩
    · rw [decide_eq_true h2]; exact rf_1q t _ _ _ s1 s2 s3 _ n1 n2 n3 h1 h2
    · rw [decide_eq_false h2]; rw [h4] at n4 s2 ⊢; exact rf_1a t _ _ _ s1 s2 s3 _ n1 n2 n3 h1 h2 h3 n4
    · rw [decide_eq_false (by omega)]; rw [h4] at n4 s2 ⊢; exact rf_1b t _ _ _ s1 s2 s3 _ n1 n2 n3 h1 h3 n4
    · rw [decide_eq_false (by omega)]; rw [h4] at n4 s2 ⊢; exact rf_1c t _ _ _ s1 s2 s3 _ n1 n2 n3 h1 h3 n4
theorem law37_mine' (t : Trl) : Fv Tryd.prog 6 [.agg t.g] (.agg t.g) := by
  refine Fv.of_awp Tryd.func6 rfl (by kernel_rfl) rfl (Nat.le_of_ble_eq_true rfl) ?_
  repeat' (conv => whnf
           first
           | (refine And.intro (Or.inl (by kernel_rfl)) ?_)
           | (refine And.intro (by kernel_rfl) ?_)
           | (refine And.intro ⟨by kernel_rfl, by kernel_rfl⟩ ?_)
           | (refine cond_f ?_ ?_)
           | (refine ⟨_, ⟨by decide, rfl⟩, ?_⟩)
           | (refine cond_i (fun h => ?_) (fun h => ?_)))
  all_goals (conv => whnf)
  all_goals rfl
section
variable (t : Trl) (h : t.msg.size ≤ 300) (fs : ByteArray) (cc : Int) (q : Trl × Int × Int) (n0 : Fv Tryd.prog 4 [] (.bool true)) (n1 : Fv Tryd.prog 5 [.agg t.g] (.str fs)) (n2 : Fv Tryd.prog 7 [.str fs] (resG q))
  (n3 : Fv Tryd.prog 8 [.agg t.g] (.str fs)) (n4 : Fv Tryd.prog 9 [.int .i64 t.code] (.int .i64 cc))
  (e1 : (q.2.1 == 0) = true) (e2 : (q.2.2 == 0) = true) (e3 : (q.1.code == cc) = true) (e4 : strEq q.1.msg t.msg = true)
include h n0 n1 n2 n3 n4 e1 e2 e3 e4
set_option maxHeartbeats 4000000 in
theorem hf_a (h3 : t.push < -2) (e5 : (q.1.push == -1) = true) : Fv Tryd.prog 3 [.agg t.g] (.bool true) := by
  have b0 : decide ((t.msg.size : Int) > 300) = false := decide_eq_false (by omega)
  have nm := law37_mine' t
  have e0 := strEq_self fs
  have b3 : decide (t.push < -2) = true := decide_eq_true h3
  have b4 : decide ((-1 : Int) > 9999999) = false := by decide
  refine Fv.of_awp Tryd.func3 rfl (by kernel_rfl) rfl (Nat.le_of_ble_eq_true rfl) ?_
  repeat' (conv => whnf
           first
           | (refine And.intro (Or.inl (by kernel_rfl)) ?_)
           | (refine And.intro (by kernel_rfl) ?_)
           | (refine And.intro ⟨by kernel_rfl, by kernel_rfl⟩ ?_)
           | (refine cond_0 b0 ?_)
           | (refine Or.inl ⟨_, nm, ?_⟩)
           | (refine ⟨_, nm, ?_⟩)
           | (refine Or.inl ⟨_, n0, ?_⟩)
           | (refine ⟨_, n0, ?_⟩)
           | (refine Or.inl ⟨_, n1, ?_⟩)
           | (refine ⟨_, n1, ?_⟩)
           | (refine Or.inl ⟨_, n2, ?_⟩)
           | (refine ⟨_, n2, ?_⟩)
           | (refine Or.inl ⟨_, n3, ?_⟩)
           | (refine ⟨_, n3, ?_⟩)
           | (refine Or.inl ⟨_, n4, ?_⟩)
           | (refine ⟨_, n4, ?_⟩)
           | (refine cond_1 e0 ?_)
           | (refine cond_1 e1 ?_)
           | (refine cond_1 e2 ?_)
           | (refine cond_1 e3 ?_)
           | (refine cond_1 e4 ?_)
           | (refine cond_1 e5 ?_)
           | (refine cond_1 b3 ?_)
           | (refine cond_0 b4 ?_)
           | (refine cond_f ?_ ?_)
           | (refine ⟨_, ⟨by decide, rfl⟩, ?_⟩)
           | (refine cond_i (fun h => ?_) (fun h => ?_)))
  all_goals (conv => whnf)
  all_goals rfl
set_option maxHeartbeats 4000000 in
theorem hf_b (h3 : t.push > 9999999) (e5 : (q.1.push == 9999999) = true) : Fv Tryd.prog 3 [.agg t.g] (.bool true) := by
  have b0 : decide ((t.msg.size : Int) > 300) = false := decide_eq_false (by omega)
  have nm := law37_mine' t
  have e0 := strEq_self fs
  have b3 : decide (t.push < -2) = false := decide_eq_false (by omega)
  have b4 : decide (t.push > 9999999) = true := decide_eq_true h3
  refine Fv.of_awp Tryd.func3 rfl (by kernel_rfl) rfl (Nat.le_of_ble_eq_true rfl) ?_
  repeat' (conv => whnf
           first
           | (refine And.intro (Or.inl (by kernel_rfl)) ?_)
           | (refine And.intro (by kernel_rfl) ?_)
           | (refine And.intro ⟨by kernel_rfl, by kernel_rfl⟩ ?_)
           | (refine cond_0 b0 ?_)
           | (refine Or.inl ⟨_, nm, ?_⟩)
           | (refine ⟨_, nm, ?_⟩)
           | (refine Or.inl ⟨_, n0, ?_⟩)
           | (refine ⟨_, n0, ?_⟩)
           | (refine Or.inl ⟨_, n1, ?_⟩)
           | (refine ⟨_, n1, ?_⟩)
           | (refine Or.inl ⟨_, n2, ?_⟩)
           | (refine ⟨_, n2, ?_⟩)
           | (refine Or.inl ⟨_, n3, ?_⟩)
           | (refine ⟨_, n3, ?_⟩)
           | (refine Or.inl ⟨_, n4, ?_⟩)
           | (refine ⟨_, n4, ?_⟩)
           | (refine cond_1 e0 ?_)
           | (refine cond_1 e1 ?_)
           | (refine cond_1 e2 ?_)
           | (refine cond_1 e3 ?_)
           | (refine cond_1 e4 ?_)
           | (refine cond_1 e5 ?_)
           | (refine cond_0 b3 ?_)
           | (refine cond_1 b4 ?_)
           | (refine cond_f ?_ ?_)
           | (refine ⟨_, ⟨by decide, rfl⟩, ?_⟩)
           | (refine cond_i (fun h => ?_) (fun h => ?_)))
  all_goals (conv => whnf)
  all_goals rfl
set_option maxHeartbeats 4000000 in
theorem hf_c (h3 : -2 ≤ t.push ∧ t.push ≤ 9999999) (e5 : (q.1.push == t.push) = true) : Fv Tryd.prog 3 [.agg t.g] (.bool true) := by
  have b0 : decide ((t.msg.size : Int) > 300) = false := decide_eq_false (by omega)
  have nm := law37_mine' t
  have e0 := strEq_self fs
  have b3 : decide (t.push < -2) = false := decide_eq_false (by omega)
  have b4 : decide (t.push > 9999999) = false := decide_eq_false (by omega)
  refine Fv.of_awp Tryd.func3 rfl (by kernel_rfl) rfl (Nat.le_of_ble_eq_true rfl) ?_
  repeat' (conv => whnf
           first
           | (refine And.intro (Or.inl (by kernel_rfl)) ?_)
           | (refine And.intro (by kernel_rfl) ?_)
           | (refine And.intro ⟨by kernel_rfl, by kernel_rfl⟩ ?_)
           | (refine cond_0 b0 ?_)
           | (refine Or.inl ⟨_, nm, ?_⟩)
           | (refine ⟨_, nm, ?_⟩)
           | (refine Or.inl ⟨_, n0, ?_⟩)
           | (refine ⟨_, n0, ?_⟩)
           | (refine Or.inl ⟨_, n1, ?_⟩)
           | (refine ⟨_, n1, ?_⟩)
           | (refine Or.inl ⟨_, n2, ?_⟩)
           | (refine ⟨_, n2, ?_⟩)
           | (refine Or.inl ⟨_, n3, ?_⟩)
           | (refine ⟨_, n3, ?_⟩)
           | (refine Or.inl ⟨_, n4, ?_⟩)
           | (refine ⟨_, n4, ?_⟩)
           | (refine cond_1 e0 ?_)
           | (refine cond_1 e1 ?_)
           | (refine cond_1 e2 ?_)
           | (refine cond_1 e3 ?_)
           | (refine cond_1 e4 ?_)
           | (refine cond_1 e5 ?_)
           | (refine cond_0 b3 ?_)
           | (refine cond_0 b4 ?_)
           | (refine cond_f ?_ ?_)
           | (refine ⟨_, ⟨by decide, rfl⟩, ?_⟩)
           | (refine cond_i (fun h => ?_) (fun h => ?_)))
  all_goals (conv => whnf)
  all_goals rfl
end
theorem law37_HeaderFormats (t : Trl) : Fv Tryd.prog 3 [.agg t.g] (.bool true) := by
  have n0 := law37_awake
  by_cases h : t.msg.size > 300
  · have b0 : decide ((t.msg.size : Int) > 300) = true := decide_eq_true (by omega)
    refine Fv.of_awp Tryd.func3 rfl (by kernel_rfl) rfl (Nat.le_of_ble_eq_true rfl) ?_
    repeat' (conv => whnf
             first
             | (refine And.intro (Or.inl (by kernel_rfl)) ?_)
             | (refine And.intro (by kernel_rfl) ?_)
             | (refine And.intro ⟨by kernel_rfl, by kernel_rfl⟩ ?_)
             | (refine cond_1 b0 ?_)
             | (refine Or.inl ⟨_, n0, ?_⟩)
             | (refine ⟨_, n0, ?_⟩)
             | (refine cond_f ?_ ?_)
             | (refine ⟨_, ⟨by decide, rfl⟩, ?_⟩)
             | (refine cond_i (fun h => ?_) (fun h => ?_)))
    all_goals (conv => whnf)
    all_goals rfl
  · have hc := clean_bd t.code
    have hsz : (strL (fmtL (clean t.code) t.msg.data.toList t.push)).size ≤ 1000000 := by
      have s1 := itoa_sz (clean t.code) (by omega)
      have s2 := itoa_sz (pcI t.push) (pcI_bd _)
      have s3 := quote_sz t.msg (by omega)
      rw [strL_size] at *
      unfold fmtL lineL
      simp only [List.length_append, List.length_cons, List.length_nil, show wStatus.length = 6 from rfl]
      have hA : ∀ (p : Prop) [Decidable p] (l : List UInt8) (n : Nat), l.length ≤ n → (if p then ([] : List UInt8) else l).length ≤ n := fun p _ l n hl => by
        split
        · exact Nat.zero_le _
        · exact hl
      have hB := hA (t.msg.data.toList = []) (wMessage ++ 58 :: 32 :: quoteL t.msg.data.toList ++ [10]) 2000 (by simp only [List.length_append, List.length_cons, List.length_nil, show wMessage.length = 7 from rfl]; omega)
      have hC := hA (t.push = -2) (wPushback ++ 58 :: 32 :: Lib.itoa (pcI t.push) ++ [10]) 2000 (by simp only [List.length_append, List.length_cons, List.length_nil, show wPushback.length = 8 from rfl]; omega)
      omega
    have n2 := hd_Parse _ hsz
    have hq := parse_fmt (clean t.code) hc t.msg t.push
    obtain ⟨q, hqq⟩ : ∃ q, q = parseT (strL (fmtL (clean t.code) t.msg.data.toList t.push)) := ⟨_, rfl⟩
    rw [← hqq] at hq n2
    have e1 : (q.2.1 == 0) = true := by rw [hq]; rfl
    have e2 : (q.2.2 == 0) = true := by rw [hq]; rfl
    have e3 : (q.1.code == clean t.code) = true := by rw [hq]; simp
    have e4 : strEq q.1.msg t.msg = true := by rw [hq]; exact strEq_self _
    have e5 : q.1.push = wantI t.push := by rw [hq]
    have n1 := hd_Format t (by omega)
    have n3 := r37_Format t (by omega)
    have n4 := code_Clean t.code
    have key : (t.push < -2 ∧ wantI t.push = -1) ∨ (t.push > 9999999 ∧ wantI t.push = 9999999) ∨ ((-2 ≤ t.push ∧ t.push ≤ 9999999) ∧ wantI t.push = t.push) := by
      unfold wantI pcI; (repeat' split) <;> omega
    rcases key with ⟨h3, h4⟩ | ⟨h3, h4⟩ | ⟨h3, h4⟩
    · exact hf_a t (by omega) _ _ q n0 n1 n2 n3 n4 e1 e2 e3 e4 h3 (by rw [e5, h4]; rfl)
    · exact hf_b t (by omega) _ _ q n0 n1 n2 n3 n4 e1 e2 e3 e4 h3 (by rw [e5, h4]; rfl)
    · exact hf_c t (by omega) _ _ q n0 n1 n2 n3 n4 e1 e2 e3 e4 h3 (by rw [e5, h4]; simp)
end Go.Proofs.YtijohhdgecadnaaDoor.Cn
namespace Go.Proofs.YtijohhdgecadnaaDoor.Av
open Go Go.RowKit Go.Deep Go.ChangeShapes Go.WideShapes
set_option linter.unusedVariables false

/-- Nothing is the call's own. -/
def C0 : Cx := Cx.out (fun _ => False)
structure Reads (w : World) (gs : List G) (cs : List Value) : Prop where
  len : cs.length = gs.length
  one : ∀ v ∈ cs, v.oneCell' = true
  rep : ∀ (i : Nat) g v, gs[i]? = some g → cs[i]? = some v → Rep C0 w g v
/-- Whatever is read as a value of type T reads as R x, and F holds of x. -/
def Opens {α : Type} (P : Program) (T : TypeId) (R : α → List G) (n : Nat) (F : α → Prop) : Prop :=
  P.cellsOf T = n ∧ (∀ x, (R x).length = n ∧ ∀ g ∈ R x, g.closed0 = true) ∧ ∀ (H : Type) (enc : TypeId × Value → H) (w : World) (spare : Nat → Bool) (held : Bool) (fuel : Nat) (cs : List Value) (d : DataW H) (ps : List MemPlace),
    DataW.trod enc P w 0 spare held fuel T cs = some (d, ps) → (∀ n ∈ d.weights P T, n ≤ reachBytes) → ∃ x, Reads w (R x) cs ∧ F x

theorem reads_one {w : World} {g : G} {v : Value} (hr : Rep C0 w g v) (hv : v.oneCell' = true) : Reads w [g] [v] :=
  ⟨rfl, fun u hu => by simp at hu; subst hu; exact hv, fun i g' v' hg hv' => by
    cases i with
    | zero => simp at hg hv'; subst hg; subst hv'; exact hr
    | succ i => simp at hg⟩
theorem Opens.imp {α : Type} {P : Program} {T : TypeId} {R : α → List G} {n : Nat} {F F' : α → Prop} (h : Opens P T R n F) (hi : ∀ x, F x → F' x) : Opens P T R n F' :=
  ⟨h.1, h.2.1, fun H enc w spare held fuel cs d ps ht hn => by
    obtain ⟨x, hK, hF⟩ := h.2.2 H enc w spare held fuel cs d ps ht hn
    exact ⟨x, hK, hi x hF⟩⟩
theorem opens_int {P : Program} {T : TypeId} {ik : IntKind} (hu : P.underlying T = some (.int ik)) (hc : P.cellsOf T = 1) : Opens P T (fun x : Int => [G.int ik x]) 1 (fun x => (Lit.int ik x).wf = true) :=
  ⟨hc, fun x => ⟨rfl, fun g hg => by simp at hg; subst hg; rfl⟩, fun H enc w spare held fuel cs d ps h _ => by
    obtain ⟨n, rfl, _, hw⟩ := DataW.trod_int hu h
    exact ⟨n, reads_one (.int _ _) rfl, hw⟩⟩
theorem opens_bool {P : Program} {T : TypeId} (hu : P.underlying T = some .bool) (hc : P.cellsOf T = 1) : Opens P T (fun x : Bool => [G.bool x]) 1 (fun _ => True) :=
  ⟨hc, fun x => ⟨rfl, fun g hg => by simp at hg; subst hg; rfl⟩, fun H enc w spare held fuel cs d ps h _ => by
    obtain ⟨b, rfl, _⟩ := DataW.trod_bool hu h
    exact ⟨b, reads_one (.bool _) rfl, trivial⟩⟩
theorem opens_string {P : Program} {T : TypeId} (hu : P.underlying T = some .string) (hc : P.cellsOf T = 1) : Opens P T (fun x : ByteArray => [G.str x]) 1 (fun s => s.size ≤ 140737488351232) :=
  ⟨hc, fun x => ⟨rfl, fun g hg => by simp at hg; subst hg; rfl⟩, fun H enc w spare held fuel cs d ps h hn => by
    obtain ⟨s, rfl, hx, _⟩ := DataW.trod_string hu h
    obtain ⟨rfl, rfl⟩ := Prod.mk.inj hx
    refine ⟨s, reads_one (.str _) rfl, ?_⟩
    have h1 := hn s.data.toList.length (by unfold DataW.weights; exact List.mem_singleton.2 rfl)
    have e2 : s.data.toList.length = s.size := by rw [Array.length_toList]; rfl
    rw [e2] at h1; exact h1⟩

theorem weights_mem_all {H : Type} {P : Program} {e : TypeId} : ∀ {ds : List (DataW H)} {d : DataW H}, d ∈ ds → ∀ n ∈ d.weights P e, n ∈ DataW.weightsAll P e ds
  | d0 :: ds, d, hd, n, hn => by
    simp only [DataW.weightsAll, List.mem_append]
    rcases List.mem_cons.1 hd with rfl | h
    · exact Or.inl hn
    · exact Or.inr (weights_mem_all h n hn)
theorem build_list {α : Type} (p : Nat → α → Prop) : ∀ n, (∀ i, i < n → ∃ x, p i x) → ∃ xs : List α, xs.length = n ∧ ∀ (i : Nat) (x : α), xs[i]? = some x → p i x
  | 0, _ => ⟨[], rfl, fun i x h => by simp at h⟩
  | n + 1, h => by
    obtain ⟨xs, hl, hp⟩ := build_list p n (fun i hi => h i (by omega))
    obtain ⟨x, hx⟩ := h n (by omega)
    refine ⟨xs ++ [x], by simp [hl], fun i y hy => ?_⟩
    by_cases hi : i < n
    · exact hp i y (by rwa [List.getElem?_append_left (by omega)] at hy)
    · rw [List.getElem?_append_right (by omega)] at hy
      obtain ⟨hz, hq⟩ : i - xs.length = 0 ∧ y = x := by
        cases hz : i - xs.length with
        | zero => rw [hz] at hy; simp at hy; exact ⟨rfl, hy.symm⟩
        | succ j => rw [hz] at hy; simp at hy
      have hin : i = n := by omega
      rw [hin, hq]; exact hx

theorem cell_block {w : World} {a : Addr} {v : Value} (h : w.cell? a = some v) : a.spot = none ∧ a.block < w.heap.size := by
  unfold World.cell? at h
  split at h
  · rename_i c _ _ hb
    split at h
    · cases h
    · rename_i hs
      exact ⟨by simpa using hs, (Array.getElem?_eq_some_iff.1 hb).1⟩
  · cases h

theorem opens_slice {α : Type} {P : Program} {T e : TypeId} {R : α → List G} {n : Nat} {F : α → Prop} (hu : P.underlying T = some (.slice e)) (hc : P.cellsOf T = 1) (hE : Opens P e R (n + 1) F) :
    Opens P T (fun xs : List α => [G.sl (xs.map R)]) 1 (fun xs => (∀ x ∈ xs, F x) ∧ xs.length * P.bytesOf e ≤ 140737488351232) :=
  ⟨hc, fun x => ⟨rfl, fun g hg => by simp at hg; subst hg; rfl⟩, fun H enc w spare held fuel cs d ps h hn => by
    rcases open_slice hu h with ⟨rfl, hx⟩ | ⟨a, len, cap, m, f, D, Pl, rfl, hb, hl, hm, hmm, hx, hel⟩
    · exact ⟨[], reads_one (.slnil none 0 (fun _ => rfl)) rfl, fun x hx => by simp at hx, by simp⟩
    · obtain ⟨rfl, rfl⟩ := Prod.mk.inj hx
      have hlm : len ≤ m := by rw [hmm]; split <;> omega
      have e0 : reachBytes = 140737488351232 := rfl
      have hW : ∀ i, i < len → ∀ n ∈ (D i).weights P e, n ≤ reachBytes := fun i hi n hni => hn n (by
        simp only [DataW.weights, hu, List.mem_cons, List.mem_append]
        exact Or.inr (Or.inl (weights_mem_all (List.mem_map.2 ⟨i, by simpa using hi, rfl⟩) n hni)))
      have hS : (len + (m - len)) * P.bytesOf e ≤ reachBytes := hn _ (by
        simp only [DataW.weights, hu, List.mem_cons]
        left; simp)
      obtain ⟨xs, hlen, hp⟩ := build_list (fun i x => ∃ cs', w.cells? 0 (a.add (i * (n + 1))) (n + 1) = some cs' ∧ Reads w (R x) cs' ∧ F x) len (fun i hi => by
        obtain ⟨cs', h1, h2⟩ := hel i (by omega)
        obtain ⟨x, hK, hF⟩ := hE.2.2 H enc w spare held f cs' _ _ h2 (hW i hi)
        exact ⟨x, cs', by rw [← hE.1]; exact h1, hK, hF⟩)
      subst hlen
      refine ⟨xs, reads_one ?_ rfl, fun x hx => ?_, ?_⟩
      · by_cases h0 : xs = []
        · subst h0; exact .slnil (some a) cap (fun e => by cases e)
        obtain ⟨x0, ys, rfl⟩ := List.exists_cons_of_ne_nil h0
        obtain ⟨hs, hlt⟩ : a.spot = none ∧ a.block < w.heap.size := by
          obtain ⟨cs', h1, hK, _⟩ := hp 0 x0 rfl
          obtain ⟨_, hl', hcc⟩ := World.cells?_some h1
          have := hcc 0 (by omega)
          rw [List.getElem?_eq_getElem (by omega)] at this
          have e1 : (a.add (0 * (n + 1))).add 0 = a := by simp [Addr.add]
          rw [e1] at this
          exact cell_block this
        generalize hxs : x0 :: ys = xs at *
        have hlm' : (xs.map R).length = xs.length := by simp
        rw [← hlm']
        refine .sl (xs.map R) a cap (n + 1) (fun i j => (w.cell? ⟨a.block, a.off + i * (n + 1) + j, none⟩).getD undef) hs hlt (fun h => h) (by rw [hlm']; omega) (fun r hr => ?_) (fun r hr g hg => ?_) (fun i r j g h1 h2 => ?_) (fun i r j g h1 h2 => ?_)
        · obtain ⟨x, _, rfl⟩ := List.mem_map.1 hr; exact (hE.2.1 x).1
        · obtain ⟨x, _, rfl⟩ := List.mem_map.1 hr; exact (hE.2.1 x).2 g hg
        all_goals
          rw [List.getElem?_map] at h1
          obtain ⟨x, hx, rfl⟩ := Option.map_eq_some_iff.1 h1
          obtain ⟨cs', q1, hK, _⟩ := hp i x hx
          obtain ⟨_, hl', hcc⟩ := World.cells?_some q1
          have hj : j < n + 1 := by rw [← (hE.2.1 x).1]; exact (List.getElem?_eq_some_iff.1 h2).1
          have hq := hcc j hj
          have ea : (a.add (i * (n + 1))).add j = ⟨a.block, a.off + i * (n + 1) + j, none⟩ := by
            rw [Deep.add_add]
            unfold Addr.add
            obtain ⟨ab, ao, asp⟩ := a
            simp only at hs; subst hs
            split
            · rename_i hz; simp [show i * (n + 1) = 0 by omega, show j = 0 by omega]
            · simp [Nat.add_assoc]
          rw [ea, List.getElem?_eq_getElem (by omega)] at hq
          rw [hq]
        · rfl
        · exact hK.rep j g _ h2 (List.getElem?_eq_getElem (by omega))
      · obtain ⟨i, hi⟩ := List.mem_iff_getElem?.1 hx
        obtain ⟨_, _, _, hF⟩ := hp i x hi
        exact hF
      · have : xs.length * P.bytesOf e ≤ (xs.length + (m - xs.length)) * P.bytesOf e := Nat.mul_le_mul_right _ (by omega)
        omega⟩

def OpensFs {α : Type} (P : Program) (fs : List Field) (off : Nat) (R : α → List G) (n : Nat) (F : α → Prop) : Prop :=
  (∀ x, (R x).length = n ∧ ∀ g ∈ R x, g.closed0 = true) ∧ ∀ (H : Type) (enc : TypeId × Value → H) (w : World) (spare : Nat → Bool) (held : Bool) (m : Nat) (cs : List Value) (xs : List (DataW H × List MemPlace)), cs.length = off + n → xs.length = fs.length →
    (∀ (i : Nat) (f : Field), fs[i]? = some f → DataW.trod enc P w 0 spare held m f.type ((cs.drop f.offset).take (P.cellsOf f.type)) = xs[i]?) →
    (∀ n ∈ DataW.weightsEach P (fs.map (·.type)) (xs.map (·.1)), n ≤ reachBytes) → ∃ x, Reads w (R x) (cs.drop off) ∧ F x
theorem fs_one {α : Type} {P : Program} {f : Field} {off : Nat} {R : α → List G} {n : Nat} {F : α → Prop} (ho : f.offset = off) (hO : Opens P f.type R n F) : OpensFs P [f] off R n F :=
  ⟨hO.2.1, fun H enc w spare held m cs xs hc hx hr hn => by
    subst ho
    match xs, hx with
    | [y], _ =>
      have h0 := hr 0 f rfl
      rw [hO.1, List.take_of_length_le (by rw [List.length_drop]; omega)] at h0
      exact hO.2.2 H enc w spare held m _ y.1 y.2 h0 (fun m hm => hn m (by simpa [DataW.weightsEach] using hm))⟩
theorem Reads.append {w : World} {gs hs : List G} {cs ds : List Value} (h : Reads w gs cs) (h' : Reads w hs ds) : Reads w (gs ++ hs) (cs ++ ds) :=
  ⟨by simp [h.len, h'.len], fun v hv => (List.mem_append.1 hv).elim (h.one v) (h'.one v), fun i g v hg hv => by
    by_cases hi : i < gs.length
    · rw [List.getElem?_append_left hi] at hg
      rw [List.getElem?_append_left (by rw [h.len]; exact hi)] at hv
      exact h.rep i g v hg hv
    · rw [List.getElem?_append_right (by omega)] at hg
      rw [List.getElem?_append_right (by rw [h.len]; omega), h.len] at hv
      exact h'.rep _ g v hg hv⟩
theorem fs_cons {α β : Type} {P : Program} {f : Field} {fs : List Field} {off off' : Nat} {R : α → List G} {R' : β → List G} {n n' : Nat} {F : α → Prop} {F' : β → Prop} (ho : f.offset = off) (ho' : off + n = off') (hO : Opens P f.type R n F) (hR : OpensFs P fs off' R' n' F') :
    OpensFs P (f :: fs) off (fun x : α × β => R x.1 ++ R' x.2) (n + n') (fun x => F x.1 ∧ F' x.2) :=
  ⟨fun x => ⟨by rw [List.length_append, (hO.2.1 x.1).1, (hR.1 x.2).1], fun g hg => (List.mem_append.1 hg).elim ((hO.2.1 x.1).2 g) ((hR.1 x.2).2 g)⟩, fun H enc w spare held m cs xs hc hx hr hn => by
    subst ho; subst ho'
    match xs, hx with
    | y :: ys, hx =>
      have h0 := hr 0 f rfl
      rw [hO.1] at h0
      obtain ⟨a, hK, hF⟩ := hO.2.2 H enc w spare held m _ y.1 y.2 h0 (fun m hm => hn m (by simp only [List.map_cons, DataW.weightsEach, List.mem_append]; exact Or.inl hm))
      obtain ⟨b, hK', hF'⟩ := hR.2 H enc w spare held m cs ys (by omega) (by simpa using hx) (fun i g hg => by simpa using hr (i + 1) g (by simpa using hg)) (fun m hm => hn m (by simp only [List.map_cons, DataW.weightsEach, List.mem_append]; exact Or.inr hm))
      refine ⟨(a, b), ?_, hF, hF'⟩
      have := hK.append hK'
      rwa [← List.drop_drop, List.take_append_drop] at this⟩
theorem opens_struct {α : Type} {P : Program} {T : TypeId} {fs : Array Field} {R : α → List G} {n : Nat} {F : α → Prop} (hu : P.underlying T = some (.struct fs)) (hc : P.cellsOf T = n) (hf : OpensFs P fs.toList 0 R n F) : Opens P T R n F :=
  ⟨hc, hf.1, fun H enc w spare held fuel cs d ps h hn => by
    obtain ⟨xs, m, _, hx, hl, hxl, hr⟩ := DataW.trod_struct hu h
    obtain ⟨rfl, rfl⟩ := Prod.mk.inj hx
    have := hf.2 H enc w spare held m cs xs (by omega) (by simpa using hxl) (fun i f hi => hr i f (by simpa using hi)) (fun m hm => hn m (by simp only [DataW.weights, hu]; exact hm))
    simpa using this⟩
/-- The same, in a type of one's own. -/
theorem opens_iso {α β : Type} {P : Program} {T : TypeId} {R : α → List G} {n : Nat} {F : α → Prop} (f : β → α) (g : α → β) (hfg : ∀ a, f (g a) = a) (hO : Opens P T R n F) {R' : β → List G} (hR : ∀ b, R' b = R (f b)) : Opens P T R' n (fun b => F (f b)) :=
  ⟨hO.1, fun x => by rw [hR]; exact hO.2.1 (f x), fun H enc w spare held fuel cs d ps h hn => by
    obtain ⟨x, hK, hF⟩ := hO.2.2 H enc w spare held fuel cs d ps h hn
    exact ⟨g x, by rw [hR, hfg]; exact hK, by show F (f (g x)); rw [hfg]; exact hF⟩⟩

/-- A value's cells as a value: a struct's, or another one's. -/
theorem param_struct {α H : Type} {P : Program} {T : TypeId} {fs : Array Field} {R : α → List G} {n : Nat} {F : α → Prop} {enc : TypeId × Value → H} {w : World} {r : Reach} {b : Nat} {spare : Nat → Bool} {held : Bool} {v : Value} {d : DataW H} {p : List MemPlace}
    (hu : P.underlying T = some (.struct fs)) (hO : Opens P T R n F) (hv : Value.okWide P w r b T v) (h : DataW.Trod enc P w 0 spare held T v d p) (hn : ∀ n ∈ d.weights P T, n ≤ reachBytes) :
    ∃ x, Rep C0 w (.agg (R x)) v ∧ F x := by
  obtain ⟨cs, rfl, _⟩ := okWide_struct hu hv
  obtain ⟨fuel, hf⟩ := h
  obtain ⟨x, hK, hF⟩ := hO.2.2 H enc w spare held fuel _ d p hf hn
  refine ⟨x, ?_, hF⟩
  have e : (Value.agg cs).cells.toList = cs.toList := rfl
  rw [e] at hK
  exact .agg _ cs.toList hK.len (fun g hg => closed0_cell ((hO.2.1 x).2 g hg)) hK.one hK.rep
theorem param_one {α H : Type} {P : Program} {T : TypeId} {R : α → List G} {g : α → G} {F : α → Prop} {enc : TypeId × Value → H} {w : World} {spare : Nat → Bool} {held : Bool} {v : Value} {d : DataW H} {p : List MemPlace}
    (hO : Opens P T R 1 F) (hR : ∀ x, R x = [g x]) (hc : v.cells = #[v]) (h : DataW.Trod enc P w 0 spare held T v d p) (hn : ∀ n ∈ d.weights P T, n ≤ reachBytes) :
    ∃ x, Rep C0 w (g x) v ∧ F x := by
  obtain ⟨fuel, hf⟩ := h
  rw [hc] at hf
  obtain ⟨x, hK, hF⟩ := hO.2.2 H enc w spare held fuel _ d p hf hn
  exact ⟨x, hK.rep 0 _ _ (by rw [hR]; rfl) rfl, hF⟩
theorem param_slice {α H : Type} {P : Program} {T e : TypeId} {R : α → List G} {g : α → G} {F : α → Prop} {enc : TypeId × Value → H} {w : World} {r : Reach} {b : Nat} {spare : Nat → Bool} {held : Bool} {v : Value} {d : DataW H} {p : List MemPlace}
    (hu : P.underlying T = some (.slice e)) (hO : Opens P T R 1 F) (hR : ∀ x, R x = [g x]) (hv : Value.okWide P w r b T v) (h : DataW.Trod enc P w 0 spare held T v d p) (hn : ∀ n ∈ d.weights P T, n ≤ reachBytes) :
    ∃ x, Rep C0 w (g x) v ∧ F x := by
  obtain ⟨a, len, cap, rfl⟩ := okWide_slice hu hv
  exact param_one hO hR rfl h hn
theorem param_int {α H : Type} {P : Program} {T : TypeId} {ik : IntKind} {R : α → List G} {g : α → G} {F : α → Prop} {enc : TypeId × Value → H} {w : World} {r : Reach} {b : Nat} {spare : Nat → Bool} {held : Bool} {v : Value} {d : DataW H} {p : List MemPlace}
    (hu : P.underlying T = some (.int ik)) (hO : Opens P T R 1 F) (hR : ∀ x, R x = [g x]) (hv : Value.okWide P w r b T v) (h : DataW.Trod enc P w 0 spare held T v d p) (hn : ∀ n ∈ d.weights P T, n ≤ reachBytes) :
    ∃ x, Rep C0 w (g x) v ∧ F x := by
  obtain ⟨m, rfl⟩ := okWide_int hu hv
  exact param_one hO hR rfl h hn
theorem param_bool {α H : Type} {P : Program} {T : TypeId} {R : α → List G} {g : α → G} {F : α → Prop} {enc : TypeId × Value → H} {w : World} {r : Reach} {b : Nat} {spare : Nat → Bool} {held : Bool} {v : Value} {d : DataW H} {p : List MemPlace}
    (hu : P.underlying T = some .bool) (hO : Opens P T R 1 F) (hR : ∀ x, R x = [g x]) (hv : Value.okWide P w r b T v) (h : DataW.Trod enc P w 0 spare held T v d p) (hn : ∀ n ∈ d.weights P T, n ≤ reachBytes) :
    ∃ x, Rep C0 w (g x) v ∧ F x := by
  obtain ⟨m, rfl⟩ := okWide_bool hu hv
  exact param_one hO hR rfl h hn
theorem param_string {α H : Type} {P : Program} {T : TypeId} {R : α → List G} {g : α → G} {F : α → Prop} {enc : TypeId × Value → H} {w : World} {r : Reach} {b : Nat} {spare : Nat → Bool} {held : Bool} {v : Value} {d : DataW H} {p : List MemPlace}
    (hu : P.underlying T = some .string) (hO : Opens P T R 1 F) (hR : ∀ x, R x = [g x]) (hv : Value.okWide P w r b T v) (h : DataW.Trod enc P w 0 spare held T v d p) (hn : ∀ n ∈ d.weights P T, n ≤ reachBytes) :
    ∃ x, Rep C0 w (g x) v ∧ F x := by
  obtain ⟨m, rfl⟩ := okWide_string hu hv
  exact param_one hO hR rfl h hn
/-- A parameter's weights, out of all. -/
theorem param_weights {H : Type} {P : Program} {ts : List TypeId} {ds : List (DataW H)} (h : (DataW.weightsEach P ts ds).all (· ≤ reachBytes) = true) {j : Nat} {t : TypeId} {d : DataW H} (ht : ts[j]? = some t) (hd : ds[j]? = some d) : ∀ n ∈ d.weights P t, n ≤ reachBytes :=
  fun n hn => by simpa using List.all_eq_true.1 h n (DataW.weights_mem_each ht hd n hn)

/-- A call of a law, by what its arguments read as. -/
theorem Fv.calls {P : Program} {f : FuncId} {gs : List G} {b : Bool} (h : Fv P f gs (.bool b)) {w : World} (hfx : Fixed w C0.ex) {vs : List Value} (hl : vs.length = gs.length) (hr : ∀ (i : Nat) g v, gs[i]? = some g → vs[i]? = some v → Rep C0 w g v) :
    Calls P f ⟨vs⟩ w fun e w' => e = .returned (.bool b) ∧ Below w.heap.size w w' := by
  refine (h.2 C0 w (fun _ => False) vs hl hr (mem0 w _ (fun B h => h.elim)) (fun B h => h.elim) (fun b B h => by cases h) (fun k B s sz n h => by cases h) hfx).mono fun e w' ⟨v, C', g, bs, rs, he, hR, hv, hM, hE⟩ => ?_
  obtain ⟨rfl, _, _⟩ := hR
  cases hv
  exact ⟨he, ⟨hE.fr.os, hE.fr.tape, hE.fr.output, hE.fr.size, fun B hB => hE.fr.block B hB (fun h => h)⟩⟩
end Go.Proofs.YtijohhdgecadnaaDoor.Av
