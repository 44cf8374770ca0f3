/- The arguments of PolicyDecides, opened: what they read as, in the print's kinds, and the one pure statement that is left. -/
import Derived.Test.YtfaoeafmgigpcaaFPolicyDecidesx5
import Derived.Test.YtfaoeafmgigpcaaOp
import Derived.KernelRfl
namespace Go.Proofs.Ytfaoeafmgigpcaa.OpenPolicyDecides
open Go Go.RowKit Go.Proofs.Ytfaoeafmgigpcaa.Op Go.Proofs.Ytfaoeafmgigpcaa.FPolicyDecides Go.Proofs.YtfaoeafmgigpcaaW.PrintWords Go.Proofs.YtfaoeafmgigpcaaW.PrintLast
set_option linter.unusedVariables false
set_option maxRecDepth 100000

def fa3s (x : Int) : Prop := (Lit.int .i64 x).wf = true
theorem o3s : Opens Try.prog 3 (Kd.int .i64) fa3s :=
  opens_int Try.underlying3 (by kernel_rfl)
abbrev kd81p : Kd (Int × (Int × Int)) := (Kd.pair (Kd.int .i64) (Kd.pair (Kd.int .i64) (Kd.int .i64)))
def fa81p (x : (Int × (Int × Int))) : Prop := fa3s x.1 ∧ fa3s x.2.1 ∧ fa3s x.2.2
theorem o81p : Opens Try.prog 81 kd81p fa81p :=
  opens_struct Try.underlying81 (by kernel_rfl) (fs_cons rfl rfl o3s (fs_cons rfl rfl o3s (fs_one rfl o3s)))
def fa81s (x : S81) : Prop := fa3s x.f0 ∧ fa3s x.f1 ∧ fa3s x.f2
theorem o81s : Opens Try.prog 81 k81 fa81s :=
  opens_iso (fun x : S81 => (x.f0, x.f1, x.f2)) (fun x : (Int × (Int × Int)) => (⟨x.1, x.2.1, x.2.2⟩ : S81)) (fun _ => rfl) o81p
abbrev ty78s := List S81
abbrev kd78s : Kd ty78s := Kd.slice 81 k81
def fa78s (x : ty78s) : Prop := (∀ y ∈ x, fa81s y) ∧ x.length * 24 ≤ 140737488351232
theorem o78s : Opens Try.prog 78 kd78s fa78s :=
  (opens_slice Try.underlying78 (by kernel_rfl) o81s).imp (fun x h => ⟨h.1, by have h2 := h.2; rw [show Try.prog.bytesOf 81 = 24 from by kernel_rfl] at h2; exact h2⟩)
abbrev ty41s := List ty78s
abbrev kd41s : Kd ty41s := Kd.slice 78 kd78s
def fa41s (x : ty41s) : Prop := (∀ y ∈ x, fa78s y) ∧ x.length * 24 ≤ 140737488351232
theorem o41s : Opens Try.prog 41 kd41s fa41s :=
  (opens_slice Try.underlying41 (by kernel_rfl) o78s).imp (fun x h => ⟨h.1, by have h2 := h.2; rw [show Try.prog.bytesOf 78 = 24 from by kernel_rfl] at h2; exact h2⟩)
abbrev ty43 := (Int × (Int × (Int × (Int × (Int × (Int × (Int × (Int × (Int × (Int × (Int × (Int × (Int × ty41s)))))))))))))
abbrev kd43 : Kd ty43 := (Kd.pair (Kd.int .i64) (Kd.pair (Kd.int .i64) (Kd.pair (Kd.int .i64) (Kd.pair (Kd.int .i64) (Kd.pair (Kd.int .i64) (Kd.pair (Kd.int .i64) (Kd.pair (Kd.int .i64) (Kd.pair (Kd.int .i64) (Kd.pair (Kd.int .i64) (Kd.pair (Kd.int .i64) (Kd.pair (Kd.int .i64) (Kd.pair (Kd.int .i64) (Kd.pair (Kd.int .i64) kd41s)))))))))))))
def fa43 (x : ty43) : Prop := fa3s x.1 ∧ fa3s x.2.1 ∧ fa3s x.2.2.1 ∧ fa3s x.2.2.2.1 ∧ fa3s x.2.2.2.2.1 ∧ fa3s x.2.2.2.2.2.1 ∧ fa3s x.2.2.2.2.2.2.1 ∧ fa3s x.2.2.2.2.2.2.2.1 ∧ fa3s x.2.2.2.2.2.2.2.2.1 ∧ fa3s x.2.2.2.2.2.2.2.2.2.1 ∧ fa3s x.2.2.2.2.2.2.2.2.2.2.1 ∧ fa3s x.2.2.2.2.2.2.2.2.2.2.2.1 ∧ fa3s x.2.2.2.2.2.2.2.2.2.2.2.2.1 ∧ fa41s x.2.2.2.2.2.2.2.2.2.2.2.2.2
theorem o43 : Opens Try.prog 43 kd43 fa43 :=
  opens_struct Try.underlying43 (by kernel_rfl) (fs_cons rfl rfl o3s (fs_cons rfl rfl o3s (fs_cons rfl rfl o3s (fs_cons rfl rfl o3s (fs_cons rfl rfl o3s (fs_cons rfl rfl o3s (fs_cons rfl rfl o3s (fs_cons rfl rfl o3s (fs_cons rfl rfl o3s (fs_cons rfl rfl o3s (fs_cons rfl rfl o3s (fs_cons rfl rfl o3s (fs_cons rfl rfl o3s (fs_one rfl o41s))))))))))))))
def fa4s (x : Bool) : Prop := True
theorem o4s : Opens Try.prog 4 Kd.bool fa4s :=
  opens_bool Try.underlying4 (by kernel_rfl)
abbrev ty45 := (Int × (Int × (Bool × (Int × (Int × (Int × (Int × Int)))))))
abbrev kd45 : Kd ty45 := (Kd.pair (Kd.int .i64) (Kd.pair (Kd.int .i64) (Kd.pair Kd.bool (Kd.pair (Kd.int .i64) (Kd.pair (Kd.int .i64) (Kd.pair (Kd.int .i64) (Kd.pair (Kd.int .i64) (Kd.int .i64))))))))
def fa45 (x : ty45) : Prop := fa3s x.1 ∧ fa3s x.2.1 ∧ fa4s x.2.2.1 ∧ fa3s x.2.2.2.1 ∧ fa3s x.2.2.2.2.1 ∧ fa3s x.2.2.2.2.2.1 ∧ fa3s x.2.2.2.2.2.2.1 ∧ fa3s x.2.2.2.2.2.2.2
theorem o45 : Opens Try.prog 45 kd45 fa45 :=
  opens_struct Try.underlying45 (by kernel_rfl) (fs_cons rfl rfl o3s (fs_cons rfl rfl o3s (fs_cons rfl rfl o4s (fs_cons rfl rfl o3s (fs_cons rfl rfl o3s (fs_cons rfl rfl o3s (fs_cons rfl rfl o3s (fs_one rfl o3s))))))))
/-- THE ONE PURE STATEMENT of hourglasslaw20_PolicyDecides. -/
def PureS : Prop := ∀ (p0 : ty43) (p1 : ty45), fa43 p0 → fa45 p1 → ∃ k, hourglasslaw20_PolicyDecides.f k p0.1 p0.2.1 p0.2.2.1 p0.2.2.2.1 p0.2.2.2.2.1 p0.2.2.2.2.2.1 p0.2.2.2.2.2.2.1 p0.2.2.2.2.2.2.2.1 p0.2.2.2.2.2.2.2.2.1 p0.2.2.2.2.2.2.2.2.2.1 p0.2.2.2.2.2.2.2.2.2.2.1 p0.2.2.2.2.2.2.2.2.2.2.2.1 p0.2.2.2.2.2.2.2.2.2.2.2.2.1 p0.2.2.2.2.2.2.2.2.2.2.2.2.2 p1.1 p1.2.1 p1.2.2.1 p1.2.2.2.1 p1.2.2.2.2.1 p1.2.2.2.2.2.1 p1.2.2.2.2.2.2.1 p1.2.2.2.2.2.2.2 = some true
end Go.Proofs.Ytfaoeafmgigpcaa.OpenPolicyDecides
