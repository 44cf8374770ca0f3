/- The functions that CodeNames reaches, as Lean functions, and what the Go code comes to: the same answers. No condition but that they answer. -/
import Derived.Test.YtfaoeafmgigpcaaProg
import Derived.Below
import Derived.Deep.Draws
import Derived.Deep.AppendLies
import Derived.Maps.AppendAt
import Derived.OwnWalk
import Derived.Laws.BytesArg
import Derived.Laws.MakeOwn
import Derived.Laws.OwnMore
import Derived.Deep.OwnRows
import Derived.Tactics
import Derived.Lib.ConvBytes
import Derived.Laws.Slices
import Derived.WalkKit
import Derived.KernelRfl
import Derived.RowKit3
import Derived.Deep.LoopGhost
import Derived.Deep.QuietTactic
import Derived.BigQuiet
import Derived.WideLaws
import Derived.Deep.DeepCutAuto
import Derived.Deep.CutBlock
import Derived.Deep.RegionHeld3
import Derived.Laws.Rows
import Derived.Lib.AppendStr
import Derived.ArgAppend
import Derived.Laws.IdiomCopy
import Derived.OrdersHeld
import Derived.Laws.BitsLemmas
import Derived.RowKit
import Derived.Test.YtfaoeafmgigpcaaWWords
import Derived.Test.YtfaoeafmgigpcaaWLast
import Derived.Test.YtfaoeafmgigpcaaWTab
import Derived.Test.YtfaoeafmgigpcaaWFour
import Derived.Test.YtfaoeafmgigpcaaWQPut
import Derived.Test.YtfaoeafmgigpcaaWApart
import Derived.Test.YtfaoeafmgigpcaaWArr
import Derived.Test.YtfaoeafmgigpcaaWZeros
import Derived.Test.YtfaoeafmgigpcaaWFoot
import Derived.Test.YtfaoeafmgigpcaaWKept
import Derived.Test.YtfaoeafmgigpcaaWShare
import Derived.Test.YtfaoeafmgigpcaaWN
import Derived.Test.YtfaoeafmgigpcaaWFootNe
import Derived.Test.YtfaoeafmgigpcaaWAt
import Derived.Test.YtfaoeafmgigpcaaWEqStruct
import Derived.Test.YtfaoeafmgigpcaaWRepsOne
import Derived.Test.YtfaoeafmgigpcaaWInv
import Derived.Test.YtfaoeafmgigpcaaWInvWords
import Derived.Test.YtfaoeafmgigpcaaWGuard
import Derived.Test.YtfaoeafmgigpcaaWNEv
import Derived.Test.YtfaoeafmgigpcaaWMore
namespace Go.Proofs.Ytfaoeafmgigpcaa.FCodeNames
open Go.RowKit Go.Proofs.YtfaoeafmgigpcaaW.PrintWords Go.Proofs.YtfaoeafmgigpcaaW.PrintLast Go.Proofs.YtfaoeafmgigpcaaW.PrintMore
attribute [local go_sem] max2_int min2_int max_two min_two max_three min_three max_four min_four   -- for this text's walks alone
set_option linter.unusedVariables false
set_option linter.unusedSimpArgs false



def errW : Option Int → Value
  | none => .nilIface
  | some c => .iface 0 (.int .i64 c)
theorem errW_none : errW none = .nilIface := rfl
theorem errW_some (c : Int) : errW (some c) = .iface 0 (.int .i64 c) := rfl

-- the values' own types

end Go.Proofs.Ytfaoeafmgigpcaa.FCodeNames
