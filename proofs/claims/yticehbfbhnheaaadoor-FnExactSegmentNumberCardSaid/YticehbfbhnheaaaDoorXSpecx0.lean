/- Contracts of the functions that Spec comes to, each proved over the translation. Written by this session's program xprint.py; the parts between 'BY HAND' rows are typed by hand. Conditions: each theorem's own hypotheses. -/
import Derived.Test.YticehbfbhnheaaaDoorProg
import Derived.Below
import Derived.Deep.Draws
import Derived.Deep.AppendLies
import Derived.Maps.AppendAt
import Derived.OwnWalk
import Derived.Laws.BytesArg
import Derived.Laws.MakeOwn
import Derived.Laws.OwnMore
import Derived.Deep.OwnRows
import Derived.Tactics
import Derived.Lib.ConvBytes
import Derived.Laws.Slices
import Derived.WalkKit
import Derived.KernelRfl
import Derived.RowKit3
import Derived.Deep.LoopGhost
import Derived.Deep.QuietTactic
import Derived.BigQuiet
import Derived.WideLaws
import Derived.Deep.DeepCutAuto
import Derived.Deep.CutBlock
import Derived.Deep.RegionHeld3
import Derived.Laws.Rows
import Derived.Lib.AppendStr
import Derived.ArgAppend
import Derived.Laws.IdiomCopy
import Derived.OrdersHeld
import Derived.Laws.BitsLemmas
import Derived.RowKit
import Derived.Test.YticehbfbhnheaaaDoorWWords
import Derived.Test.YticehbfbhnheaaaDoorWLast
import Derived.Test.YticehbfbhnheaaaDoorWTab
import Derived.Test.YticehbfbhnheaaaDoorWFour
import Derived.Test.YticehbfbhnheaaaDoorWQPut
import Derived.Test.YticehbfbhnheaaaDoorWApart
import Derived.Test.YticehbfbhnheaaaDoorWArr
import Derived.Test.YticehbfbhnheaaaDoorWZeros
import Derived.Test.YticehbfbhnheaaaDoorWFoot
import Derived.Test.YticehbfbhnheaaaDoorWKept
import Derived.Test.YticehbfbhnheaaaDoorWShare
import Derived.Test.YticehbfbhnheaaaDoorWN
import Derived.Test.YticehbfbhnheaaaDoorWFootNe
import Derived.Test.YticehbfbhnheaaaDoorWAt
import Derived.Test.YticehbfbhnheaaaDoorWEqStruct
import Derived.Test.YticehbfbhnheaaaDoorWRepsOne
import Derived.Test.YticehbfbhnheaaaDoorWInv
import Derived.Test.YticehbfbhnheaaaDoorWInvWords
import Derived.Test.YticehbfbhnheaaaDoorWGuard
import Derived.Test.YticehbfbhnheaaaDoorWNEv
import Derived.Test.YticehbfbhnheaaaDoorWMore
namespace Go.Proofs.YticehbfbhnheaaaDoor.XSpec
open Go.RowKit Go.Proofs.YticehbfbhnheaaaDoorW.PrintWords Go.Proofs.YticehbfbhnheaaaDoorW.PrintLast Go.Proofs.YticehbfbhnheaaaDoorW.PrintMore
attribute [local go_sem] max2_int min2_int max_two min_two max_three min_three max_four min_four   -- for this text's walks alone
set_option linter.unusedVariables false
set_option linter.unusedSimpArgs false



def errW : Option Int → Value
  | none => .nilIface
  | some c => .iface 0 (.int .i64 c)
theorem errW_none : errW none = .nilIface := rfl
theorem errW_some (c : Int) : errW (some c) = .iface 0 (.int .i64 c) := rfl

theorem info5 : (Tryd.prog.info? 5).map (fun i => (i.zero, i.size, i.bytes)) = some (some (.int .u8 0), 1, 1) := by kernel_rfl
-- the values' own types

end Go.Proofs.YticehbfbhnheaaaDoor.XSpec
