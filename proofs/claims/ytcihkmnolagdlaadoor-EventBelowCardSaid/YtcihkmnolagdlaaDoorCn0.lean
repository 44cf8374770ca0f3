
/- Small facts that contracts share. No condition. -/
import Derived.Test.YtcihkmnolagdlaaDoorSp1
import Derived.Test.YtcihkmnolagdlaaDoorAv16
namespace Go.Proofs.YtcihkmnolagdlaaDoor.Cn
open Go Go.Proofs Go.Proofs.YtcihkmnolagdlaaDoor.Av Go.Proofs.YtcihkmnolagdlaaDoor.Sp
set_option linter.unusedVariables false

theorem int_eq {a b : Int} (h : a = b) : G.int .i64 a = G.int .i64 b := by rw [h]
theorem bool_eq {a b : Bool} (h : a = b) : G.bool a = G.bool b := by rw [h]
theorem up1 {k n : Nat} (hk : k < n) (hn : n < 4611686018427387904) : IntKind.i64.wrap ((k : Int) + 1) = (k : Int) + 1 := wrap_i64 (by omega)
theorem own_le1 {α : Type} {l : List α} {R : α → List G} : 0 + l.length ≤ (l.map R).length := by simp
theorem own_all1 {α : Type} {l : List α} {R : α → List G} : ((l.map R).drop 0).take l.length = l.map R := by rw [List.drop_zero]; exact List.take_of_length_le (by simp)
end Go.Proofs.YtcihkmnolagdlaaDoor.Cn
