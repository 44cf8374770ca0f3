/- The arguments of CallBounds, opened: what they read as, in the print's kinds, and the one pure statement that is left. -/
import Derived.Test.YteioecdfimphaaaFCallBoundsx7
import Derived.Test.YteioecdfimphaaaOp
import Derived.KernelRfl
namespace Go.Proofs.Yteioecdfimphaaa.OpenCallBounds
open Go Go.RowKit Go.Proofs.Yteioecdfimphaaa.Op Go.Proofs.Yteioecdfimphaaa.FCallBounds Go.Proofs.YteioecdfimphaaaW.PrintWords Go.Proofs.YteioecdfimphaaaW.PrintLast
set_option linter.unusedVariables false
set_option maxRecDepth 100000

def fa3s (x : Int) : Prop := (Lit.int .i64 x).wf = true
theorem o3s : Opens Try.prog 3 (Kd.int .i64) fa3s :=
  opens_int Try.underlying3 (by kernel_rfl)
abbrev ty23 := (Int × (Int × Int))
abbrev kd23 : Kd ty23 := (Kd.pair (Kd.int .i64) (Kd.pair (Kd.int .i64) (Kd.int .i64)))
def fa23 (x : ty23) : Prop := fa3s x.1 ∧ fa3s x.2.1 ∧ fa3s x.2.2
theorem o23 : Opens Try.prog 23 kd23 fa23 :=
  opens_struct Try.underlying23 (by kernel_rfl) (fs_cons rfl rfl o3s (fs_cons rfl rfl o3s (fs_one rfl o3s)))
abbrev kd46p : Kd (Int × (Int × Int)) := (Kd.pair (Kd.int .i64) (Kd.pair (Kd.int .i64) (Kd.int .i64)))
def fa46p (x : (Int × (Int × Int))) : Prop := fa3s x.1 ∧ fa3s x.2.1 ∧ fa3s x.2.2
theorem o46p : Opens Try.prog 46 kd46p fa46p :=
  opens_struct Try.underlying46 (by kernel_rfl) (fs_cons rfl rfl o3s (fs_cons rfl rfl o3s (fs_one rfl o3s)))
def fa46s (x : S46) : Prop := fa3s x.f0 ∧ fa3s x.f1 ∧ fa3s x.f2
theorem o46s : Opens Try.prog 46 k46 fa46s :=
  opens_iso (fun x : S46 => (x.f0, x.f1, x.f2)) (fun x : (Int × (Int × Int)) => (⟨x.1, x.2.1, x.2.2⟩ : S46)) (fun _ => rfl) o46p
abbrev ty29s := List S46
abbrev kd29s : Kd ty29s := Kd.slice 46 k46
def fa29s (x : ty29s) : Prop := (∀ y ∈ x, fa46s y) ∧ x.length * 24 ≤ 140737488351232
theorem o29s : Opens Try.prog 29 kd29s fa29s :=
  (opens_slice Try.underlying29 (by kernel_rfl) o46s).imp (fun x h => ⟨h.1, by have h2 := h.2; rw [show Try.prog.bytesOf 46 = 24 from by kernel_rfl] at h2; exact h2⟩)
abbrev ty70s := List ty29s
abbrev kd70s : Kd ty70s := Kd.slice 29 kd29s
def fa70s (x : ty70s) : Prop := (∀ y ∈ x, fa29s y) ∧ x.length * 24 ≤ 140737488351232
theorem o70s : Opens Try.prog 70 kd70s fa70s :=
  (opens_slice Try.underlying70 (by kernel_rfl) o29s).imp (fun x h => ⟨h.1, by have h2 := h.2; rw [show Try.prog.bytesOf 29 = 24 from by kernel_rfl] at h2; exact h2⟩)
abbrev ty72 := (Int × (Int × (Int × (Int × (Int × (Int × (Int × (Int × (Int × (Int × (Int × (Int × (Int × ty70s)))))))))))))
abbrev kd72 : Kd ty72 := (Kd.pair (Kd.int .i64) (Kd.pair (Kd.int .i64) (Kd.pair (Kd.int .i64) (Kd.pair (Kd.int .i64) (Kd.pair (Kd.int .i64) (Kd.pair (Kd.int .i64) (Kd.pair (Kd.int .i64) (Kd.pair (Kd.int .i64) (Kd.pair (Kd.int .i64) (Kd.pair (Kd.int .i64) (Kd.pair (Kd.int .i64) (Kd.pair (Kd.int .i64) (Kd.pair (Kd.int .i64) kd70s)))))))))))))
def fa72 (x : ty72) : Prop := fa3s x.1 ∧ fa3s x.2.1 ∧ fa3s x.2.2.1 ∧ fa3s x.2.2.2.1 ∧ fa3s x.2.2.2.2.1 ∧ fa3s x.2.2.2.2.2.1 ∧ fa3s x.2.2.2.2.2.2.1 ∧ fa3s x.2.2.2.2.2.2.2.1 ∧ fa3s x.2.2.2.2.2.2.2.2.1 ∧ fa3s x.2.2.2.2.2.2.2.2.2.1 ∧ fa3s x.2.2.2.2.2.2.2.2.2.2.1 ∧ fa3s x.2.2.2.2.2.2.2.2.2.2.2.1 ∧ fa3s x.2.2.2.2.2.2.2.2.2.2.2.2.1 ∧ fa70s x.2.2.2.2.2.2.2.2.2.2.2.2.2
theorem o72 : Opens Try.prog 72 kd72 fa72 :=
  opens_struct Try.underlying72 (by kernel_rfl) (fs_cons rfl rfl o3s (fs_cons rfl rfl o3s (fs_cons rfl rfl o3s (fs_cons rfl rfl o3s (fs_cons rfl rfl o3s (fs_cons rfl rfl o3s (fs_cons rfl rfl o3s (fs_cons rfl rfl o3s (fs_cons rfl rfl o3s (fs_cons rfl rfl o3s (fs_cons rfl rfl o3s (fs_cons rfl rfl o3s (fs_cons rfl rfl o3s (fs_one rfl o70s))))))))))))))
def fa4s (x : Bool) : Prop := True
theorem o4s : Opens Try.prog 4 Kd.bool fa4s :=
  opens_bool Try.underlying4 (by kernel_rfl)
abbrev kd77p : Kd (Int × (Int × (Bool × (Int × (Int × (Int × (Int × Int))))))) := (Kd.pair (Kd.int .i64) (Kd.pair (Kd.int .i64) (Kd.pair Kd.bool (Kd.pair (Kd.int .i64) (Kd.pair (Kd.int .i64) (Kd.pair (Kd.int .i64) (Kd.pair (Kd.int .i64) (Kd.int .i64))))))))
def fa77p (x : (Int × (Int × (Bool × (Int × (Int × (Int × (Int × Int)))))))) : Prop := fa3s x.1 ∧ fa3s x.2.1 ∧ fa4s x.2.2.1 ∧ fa3s x.2.2.2.1 ∧ fa3s x.2.2.2.2.1 ∧ fa3s x.2.2.2.2.2.1 ∧ fa3s x.2.2.2.2.2.2.1 ∧ fa3s x.2.2.2.2.2.2.2
theorem o77p : Opens Try.prog 77 kd77p fa77p :=
  opens_struct Try.underlying77 (by kernel_rfl) (fs_cons rfl rfl o3s (fs_cons rfl rfl o3s (fs_cons rfl rfl o4s (fs_cons rfl rfl o3s (fs_cons rfl rfl o3s (fs_cons rfl rfl o3s (fs_cons rfl rfl o3s (fs_one rfl o3s))))))))
def fa77s (x : S77) : Prop := fa3s x.f0 ∧ fa3s x.f1 ∧ fa4s x.f2 ∧ fa3s x.f3 ∧ fa3s x.f4 ∧ fa3s x.f5 ∧ fa3s x.f6 ∧ fa3s x.f7
theorem o77s : Opens Try.prog 77 k77 fa77s :=
  opens_iso (fun x : S77 => (x.f0, x.f1, x.f2, x.f3, x.f4, x.f5, x.f6, x.f7)) (fun x : (Int × (Int × (Bool × (Int × (Int × (Int × (Int × Int))))))) => (⟨x.1, x.2.1, x.2.2.1, x.2.2.2.1, x.2.2.2.2.1, x.2.2.2.2.2.1, x.2.2.2.2.2.2.1, x.2.2.2.2.2.2.2⟩ : S77)) (fun _ => rfl) o77p
abbrev kd79p : Kd (Int × (Int × S77)) := (Kd.pair (Kd.int .i64) (Kd.pair (Kd.int .i64) k77))
def fa79p (x : (Int × (Int × S77))) : Prop := fa3s x.1 ∧ fa3s x.2.1 ∧ fa77s x.2.2
theorem o79p : Opens Try.prog 79 kd79p fa79p :=
  opens_struct Try.underlying79 (by kernel_rfl) (fs_cons rfl rfl o3s (fs_cons rfl rfl o3s (fs_one rfl o77s)))
def fa79s (x : S79) : Prop := fa3s x.f0 ∧ fa3s x.f1 ∧ fa77s x.f2
theorem o79s : Opens Try.prog 79 k79 fa79s :=
  opens_iso (fun x : S79 => (x.f0, x.f1, x.f2)) (fun x : (Int × (Int × S77)) => (⟨x.1, x.2.1, x.2.2⟩ : S79)) (fun _ => rfl) o79p
abbrev ty73 := List S79
abbrev kd73 : Kd ty73 := Kd.slice 79 k79
def fa73 (x : ty73) : Prop := (∀ y ∈ x, fa79s y) ∧ x.length * 80 ≤ 140737488351232
theorem o73 : Opens Try.prog 73 kd73 fa73 :=
  (opens_slice Try.underlying73 (by kernel_rfl) o79s).imp (fun x h => ⟨h.1, by have h2 := h.2; rw [show Try.prog.bytesOf 79 = 80 from by kernel_rfl] at h2; exact h2⟩)
/-- THE ONE PURE STATEMENT of hourglasslaw21_CallBounds. -/
def PureS : Prop := ∀ (p0 : ty23) (p1 : ty72) (p2 : ty73), fa23 p0 → fa72 p1 → fa73 p2 → ∃ k, hourglasslaw21_CallBounds.f k p0.1 p0.2.1 p0.2.2 p1.1 p1.2.1 p1.2.2.1 p1.2.2.2.1 p1.2.2.2.2.1 p1.2.2.2.2.2.1 p1.2.2.2.2.2.2.1 p1.2.2.2.2.2.2.2.1 p1.2.2.2.2.2.2.2.2.1 p1.2.2.2.2.2.2.2.2.2.1 p1.2.2.2.2.2.2.2.2.2.2.1 p1.2.2.2.2.2.2.2.2.2.2.2.1 p1.2.2.2.2.2.2.2.2.2.2.2.2.1 p1.2.2.2.2.2.2.2.2.2.2.2.2.2 p2 = some true
end Go.Proofs.Yteioecdfimphaaa.OpenCallBounds
