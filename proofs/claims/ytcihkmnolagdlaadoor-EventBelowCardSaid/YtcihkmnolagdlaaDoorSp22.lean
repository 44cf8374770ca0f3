
/- Who was begun below an owner, as lists. No condition. -/
import Derived.Test.YtcihkmnolagdlaaDoorSp21
namespace Go.Proofs.YtcihkmnolagdlaaDoor.Sp
open Go Go.Proofs.YtcihkmnolagdlaaDoor.Av
set_option linter.unusedVariables false

def belowStep (k : Key) (out : List Key) (e : Ev) : List Key := if e.kind = 3 ∧ e.parent ∈ k :: out ∧ e.key ∉ k :: out then out ++ [e.key] else out
def belowL (k : Key) (l : List Ev) : List Key := l.foldl (belowStep k) []
theorem belowL_take {k : Key} {l : List Ev} {j : Nat} (hj : j < l.length) : belowL k (l.take (j + 1)) = belowStep k (belowL k (l.take j)) l[j] := by
  unfold belowL; rw [take_snoc hj, List.foldl_append]; rfl
theorem belowStep_len (k : Key) (out : List Key) (e : Ev) : (belowStep k out e).length ≤ out.length + 1 := by
  unfold belowStep; split <;> simp
theorem belowL_len (k : Key) (l : List Ev) : (belowL k l).length ≤ l.length := by
  have : ∀ (l : List Ev) (out : List Key), (l.foldl (belowStep k) out).length ≤ out.length + l.length := by
    intro l
    induction l with
    | nil => intro out; simp
    | cons e l ih => intro out; have := ih (belowStep k out e); have := belowStep_len k out e; simp only [List.foldl_cons, List.length_cons]; omega
  have := this l []
  simpa [belowL] using this
end Go.Proofs.YtcihkmnolagdlaaDoor.Sp
