/- The arguments of CallWaits, opened: what they read as, in the print's kinds, and the one pure statement that is left. -/
import Derived.Test.YteioecdfimphaaaFCallWaitsx4
import Derived.Test.YteioecdfimphaaaOp
import Derived.KernelRfl
namespace Go.Proofs.Yteioecdfimphaaa.OpenCallWaits
open Go Go.RowKit Go.Proofs.Yteioecdfimphaaa.Op Go.Proofs.Yteioecdfimphaaa.FCallWaits Go.Proofs.YteioecdfimphaaaW.PrintWords Go.Proofs.YteioecdfimphaaaW.PrintLast
set_option linter.unusedVariables false
set_option maxRecDepth 100000

def fa3s (x : Int) : Prop := (Lit.int .i64 x).wf = true
theorem o3s : Opens Try.prog 3 (Kd.int .i64) fa3s :=
  opens_int Try.underlying3 (by kernel_rfl)
abbrev kd46p : Kd (Int × (Int × Int)) := (Kd.pair (Kd.int .i64) (Kd.pair (Kd.int .i64) (Kd.int .i64)))
def fa46p (x : (Int × (Int × Int))) : Prop := fa3s x.1 ∧ fa3s x.2.1 ∧ fa3s x.2.2
theorem o46p : Opens Try.prog 46 kd46p fa46p :=
  opens_struct Try.underlying46 (by kernel_rfl) (fs_cons rfl rfl o3s (fs_cons rfl rfl o3s (fs_one rfl o3s)))
def fa46s (x : S46) : Prop := fa3s x.f0 ∧ fa3s x.f1 ∧ fa3s x.f2
theorem o46s : Opens Try.prog 46 k46 fa46s :=
  opens_iso (fun x : S46 => (x.f0, x.f1, x.f2)) (fun x : (Int × (Int × Int)) => (⟨x.1, x.2.1, x.2.2⟩ : S46)) (fun _ => rfl) o46p
abbrev ty29s := List S46
abbrev kd29s : Kd ty29s := Kd.slice 46 k46
def fa29s (x : ty29s) : Prop := (∀ y ∈ x, fa46s y) ∧ x.length * 24 ≤ 140737488351232
theorem o29s : Opens Try.prog 29 kd29s fa29s :=
  (opens_slice Try.underlying29 (by kernel_rfl) o46s).imp (fun x h => ⟨h.1, by have h2 := h.2; rw [show Try.prog.bytesOf 46 = 24 from by kernel_rfl] at h2; exact h2⟩)
abbrev ty70s := List ty29s
abbrev kd70s : Kd ty70s := Kd.slice 29 kd29s
def fa70s (x : ty70s) : Prop := (∀ y ∈ x, fa29s y) ∧ x.length * 24 ≤ 140737488351232
theorem o70s : Opens Try.prog 70 kd70s fa70s :=
  (opens_slice Try.underlying70 (by kernel_rfl) o29s).imp (fun x h => ⟨h.1, by have h2 := h.2; rw [show Try.prog.bytesOf 29 = 24 from by kernel_rfl] at h2; exact h2⟩)
abbrev ty72 := (Int × (Int × (Int × (Int × (Int × (Int × (Int × (Int × (Int × (Int × (Int × (Int × (Int × ty70s)))))))))))))
abbrev kd72 : Kd ty72 := (Kd.pair (Kd.int .i64) (Kd.pair (Kd.int .i64) (Kd.pair (Kd.int .i64) (Kd.pair (Kd.int .i64) (Kd.pair (Kd.int .i64) (Kd.pair (Kd.int .i64) (Kd.pair (Kd.int .i64) (Kd.pair (Kd.int .i64) (Kd.pair (Kd.int .i64) (Kd.pair (Kd.int .i64) (Kd.pair (Kd.int .i64) (Kd.pair (Kd.int .i64) (Kd.pair (Kd.int .i64) kd70s)))))))))))))
def fa72 (x : ty72) : Prop := fa3s x.1 ∧ fa3s x.2.1 ∧ fa3s x.2.2.1 ∧ fa3s x.2.2.2.1 ∧ fa3s x.2.2.2.2.1 ∧ fa3s x.2.2.2.2.2.1 ∧ fa3s x.2.2.2.2.2.2.1 ∧ fa3s x.2.2.2.2.2.2.2.1 ∧ fa3s x.2.2.2.2.2.2.2.2.1 ∧ fa3s x.2.2.2.2.2.2.2.2.2.1 ∧ fa3s x.2.2.2.2.2.2.2.2.2.2.1 ∧ fa3s x.2.2.2.2.2.2.2.2.2.2.2.1 ∧ fa3s x.2.2.2.2.2.2.2.2.2.2.2.2.1 ∧ fa70s x.2.2.2.2.2.2.2.2.2.2.2.2.2
theorem o72 : Opens Try.prog 72 kd72 fa72 :=
  opens_struct Try.underlying72 (by kernel_rfl) (fs_cons rfl rfl o3s (fs_cons rfl rfl o3s (fs_cons rfl rfl o3s (fs_cons rfl rfl o3s (fs_cons rfl rfl o3s (fs_cons rfl rfl o3s (fs_cons rfl rfl o3s (fs_cons rfl rfl o3s (fs_cons rfl rfl o3s (fs_cons rfl rfl o3s (fs_cons rfl rfl o3s (fs_cons rfl rfl o3s (fs_cons rfl rfl o3s (fs_one rfl o70s))))))))))))))
def fa4s (x : Bool) : Prop := True
theorem o4s : Opens Try.prog 4 Kd.bool fa4s :=
  opens_bool Try.underlying4 (by kernel_rfl)
abbrev ty77 := (Int × (Int × (Bool × (Int × (Int × (Int × (Int × Int)))))))
abbrev kd77 : Kd ty77 := (Kd.pair (Kd.int .i64) (Kd.pair (Kd.int .i64) (Kd.pair Kd.bool (Kd.pair (Kd.int .i64) (Kd.pair (Kd.int .i64) (Kd.pair (Kd.int .i64) (Kd.pair (Kd.int .i64) (Kd.int .i64))))))))
def fa77 (x : ty77) : Prop := fa3s x.1 ∧ fa3s x.2.1 ∧ fa4s x.2.2.1 ∧ fa3s x.2.2.2.1 ∧ fa3s x.2.2.2.2.1 ∧ fa3s x.2.2.2.2.2.1 ∧ fa3s x.2.2.2.2.2.2.1 ∧ fa3s x.2.2.2.2.2.2.2
theorem o77 : Opens Try.prog 77 kd77 fa77 :=
  opens_struct Try.underlying77 (by kernel_rfl) (fs_cons rfl rfl o3s (fs_cons rfl rfl o3s (fs_cons rfl rfl o4s (fs_cons rfl rfl o3s (fs_cons rfl rfl o3s (fs_cons rfl rfl o3s (fs_cons rfl rfl o3s (fs_one rfl o3s))))))))
def fa3 (x : Int) : Prop := (Lit.int .i64 x).wf = true
theorem o3 : Opens Try.prog 3 (Kd.int .i64) fa3 :=
  opens_int Try.underlying3 (by kernel_rfl)
/-- THE ONE PURE STATEMENT of hourglasslaw21_CallWaits. -/
def PureS : Prop := ∀ (p0 : ty72) (p1 : ty77) (p2 : Int) (p3 : Int) (p4 : Int), fa72 p0 → fa77 p1 → fa3 p2 → fa3 p3 → fa3 p4 → ∃ k, hourglasslaw21_CallWaits.f k p0.1 p0.2.1 p0.2.2.1 p0.2.2.2.1 p0.2.2.2.2.1 p0.2.2.2.2.2.1 p0.2.2.2.2.2.2.1 p0.2.2.2.2.2.2.2.1 p0.2.2.2.2.2.2.2.2.1 p0.2.2.2.2.2.2.2.2.2.1 p0.2.2.2.2.2.2.2.2.2.2.1 p0.2.2.2.2.2.2.2.2.2.2.2.1 p0.2.2.2.2.2.2.2.2.2.2.2.2.1 p0.2.2.2.2.2.2.2.2.2.2.2.2.2 p1.1 p1.2.1 p1.2.2.1 p1.2.2.2.1 p1.2.2.2.2.1 p1.2.2.2.2.2.1 p1.2.2.2.2.2.2.1 p1.2.2.2.2.2.2.2 p2 p3 p4 = some true
end Go.Proofs.Yteioecdfimphaaa.OpenCallWaits
