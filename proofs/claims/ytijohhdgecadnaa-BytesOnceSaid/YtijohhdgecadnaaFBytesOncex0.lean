/- The functions that BytesOnce reaches, as Lean functions, and what the Go code comes to: the same answers. No condition but that they answer. -/
import Derived.Test.YtijohhdgecadnaaProg
import Derived.Below
import Derived.Deep.Draws
import Derived.Deep.AppendLies
import Derived.Maps.AppendAt
import Derived.OwnWalk
import Derived.Laws.BytesArg
import Derived.Laws.MakeOwn
import Derived.Laws.OwnMore
import Derived.Deep.OwnRows
import Derived.Tactics
import Derived.Lib.ConvBytes
import Derived.Laws.Slices
import Derived.WalkKit
import Derived.KernelRfl
import Derived.RowKit3
import Derived.Deep.LoopGhost
import Derived.Deep.QuietTactic
import Derived.BigQuiet
import Derived.WideLaws
import Derived.Deep.DeepCutAuto
import Derived.Deep.CutBlock
import Derived.Deep.RegionHeld3
import Derived.Laws.Rows
import Derived.Lib.AppendStr
import Derived.ArgAppend
import Derived.Laws.IdiomCopy
import Derived.OrdersHeld
import Derived.Laws.BitsLemmas
import Derived.RowKit
import Derived.Test.YtijohhdgecadnaaWWords
import Derived.Test.YtijohhdgecadnaaWLast
import Derived.Test.YtijohhdgecadnaaWTab
import Derived.Test.YtijohhdgecadnaaWFour
import Derived.Test.YtijohhdgecadnaaWQPut
import Derived.Test.YtijohhdgecadnaaWApart
import Derived.Test.YtijohhdgecadnaaWArr
import Derived.Test.YtijohhdgecadnaaWZeros
import Derived.Test.YtijohhdgecadnaaWFoot
import Derived.Test.YtijohhdgecadnaaWKept
import Derived.Test.YtijohhdgecadnaaWShare
import Derived.Test.YtijohhdgecadnaaWN
import Derived.Test.YtijohhdgecadnaaWFootNe
import Derived.Test.YtijohhdgecadnaaWAt
import Derived.Test.YtijohhdgecadnaaWEqStruct
import Derived.Test.YtijohhdgecadnaaWRepsOne
import Derived.Test.YtijohhdgecadnaaWInv
import Derived.Test.YtijohhdgecadnaaWInvWords
import Derived.Test.YtijohhdgecadnaaWGuard
import Derived.Test.YtijohhdgecadnaaWNEv
import Derived.Test.YtijohhdgecadnaaWMore
namespace Go.Proofs.Ytijohhdgecadnaa.FBytesOnce
open Go.RowKit Go.Proofs.YtijohhdgecadnaaW.PrintWords Go.Proofs.YtijohhdgecadnaaW.PrintLast Go.Proofs.YtijohhdgecadnaaW.PrintMore
attribute [local go_sem] max2_int min2_int max_two min_two max_three min_three max_four min_four   -- for this text's walks alone
set_option linter.unusedVariables false
set_option linter.unusedSimpArgs false



def errW : Option Int → Value
  | none => .nilIface
  | some c => .iface 0 (.int .i64 c)
theorem errW_none : errW none = .nilIface := rfl
theorem errW_some (c : Int) : errW (some c) = .iface 0 (.int .i64 c) := rfl

theorem info5 : (Try.prog.info? 5).map (fun i => (i.zero, i.size, i.bytes)) = some (some (.int .u8 0), 1, 1) := by kernel_rfl
-- the values' own types

end Go.Proofs.Ytijohhdgecadnaa.FBytesOnce
