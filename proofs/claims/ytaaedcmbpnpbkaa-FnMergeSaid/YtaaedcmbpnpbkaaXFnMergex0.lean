/- Contracts of the functions that FnMerge comes to, each proved over the translation. Written by this session's program xprint.py; the parts between 'BY HAND' rows are typed by hand. Conditions: each theorem's own hypotheses. -/
import Derived.Test.YtaaedcmbpnpbkaaProg
import Derived.Below
import Derived.Deep.Draws
import Derived.Deep.AppendLies
import Derived.Maps.AppendAt
import Derived.OwnWalk
import Derived.Laws.BytesArg
import Derived.Laws.MakeOwn
import Derived.Laws.OwnMore
import Derived.Deep.OwnRows
import Derived.Tactics
import Derived.Lib.ConvBytes
import Derived.Laws.Slices
import Derived.WalkKit
import Derived.KernelRfl
import Derived.RowKit3
import Derived.Deep.LoopGhost
import Derived.Deep.QuietTactic
import Derived.BigQuiet
import Derived.WideLaws
import Derived.Deep.DeepCutAuto
import Derived.Deep.CutBlock
import Derived.Deep.RegionHeld3
import Derived.Laws.Rows
import Derived.Lib.AppendStr
import Derived.ArgAppend
import Derived.Laws.IdiomCopy
import Derived.OrdersHeld
import Derived.Laws.BitsLemmas
import Derived.RowKit
import Derived.Test.YtaaedcmbpnpbkaaWWords
import Derived.Test.YtaaedcmbpnpbkaaWLast
import Derived.Test.YtaaedcmbpnpbkaaWTab
import Derived.Test.YtaaedcmbpnpbkaaWFour
import Derived.Test.YtaaedcmbpnpbkaaWQPut
import Derived.Test.YtaaedcmbpnpbkaaWApart
import Derived.Test.YtaaedcmbpnpbkaaWArr
import Derived.Test.YtaaedcmbpnpbkaaWZeros
import Derived.Test.YtaaedcmbpnpbkaaWFoot
import Derived.Test.YtaaedcmbpnpbkaaWKept
import Derived.Test.YtaaedcmbpnpbkaaWShare
import Derived.Test.YtaaedcmbpnpbkaaWN
import Derived.Test.YtaaedcmbpnpbkaaWFootNe
import Derived.Test.YtaaedcmbpnpbkaaWAt
import Derived.Test.YtaaedcmbpnpbkaaWEqStruct
import Derived.Test.YtaaedcmbpnpbkaaWRepsOne
import Derived.Test.YtaaedcmbpnpbkaaWInv
import Derived.Test.YtaaedcmbpnpbkaaWInvWords
import Derived.Test.YtaaedcmbpnpbkaaWGuard
import Derived.Test.YtaaedcmbpnpbkaaWNEv
import Derived.Test.YtaaedcmbpnpbkaaWMore
namespace Go.Proofs.Ytaaedcmbpnpbkaa.XFnMerge
open Go.RowKit Go.Proofs.YtaaedcmbpnpbkaaW.PrintWords Go.Proofs.YtaaedcmbpnpbkaaW.PrintLast Go.Proofs.YtaaedcmbpnpbkaaW.PrintMore
attribute [local go_sem] max2_int min2_int max_two min_two max_three min_three max_four min_four   -- for this text's walks alone
set_option linter.unusedVariables false
set_option linter.unusedSimpArgs false



def errW : Option Int → Value
  | none => .nilIface
  | some c => .iface 0 (.int .i64 c)
theorem errW_none : errW none = .nilIface := rfl
theorem errW_some (c : Int) : errW (some c) = .iface 0 (.int .i64 c) := rfl

theorem info3 : (Try.prog.info? 3).map (fun i => (i.zero, i.size, i.bytes)) = some (some (.int .i64 0), 1, 8) := by kernel_rfl
-- the values' own types

end Go.Proofs.Ytaaedcmbpnpbkaa.XFnMerge
