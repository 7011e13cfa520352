/- The steps of the machine for these functions, written out by this session's program wip/printmore.py; Lean checks every line. -/
import Derived.Test.YtpaoboadccnnmaaProg
import Derived.Below
import Derived.Deep.Draws
import Derived.Deep.AppendLies
import Derived.Maps.AppendAt
import Derived.OwnWalk
import Derived.Laws.BytesArg
import Derived.Laws.MakeOwn
import Derived.Laws.OwnMore
import Derived.Deep.OwnRows
import Derived.Tactics
import Derived.Lib.ConvBytes
import Derived.Laws.Slices
import Derived.WalkKit
import Derived.KernelRfl
import Derived.RowKit3
import Derived.Deep.LoopGhost
import Derived.Deep.QuietTactic
import Derived.BigQuiet
import Derived.WideLaws
import Derived.Deep.DeepCutAuto
import Derived.Deep.CutBlock
import Derived.Deep.RegionHeld3
import Derived.Laws.Rows
import Derived.Lib.AppendStr
import Derived.ArgAppend
import Derived.Laws.IdiomCopy
import Derived.OrdersHeld
import Derived.Laws.BitsLemmas
import Derived.RowKit
import Derived.WalkSpells
import Derived.Lib.LazyBuf
import Derived.Lib.SlBytesConst
import Derived.Test.YtpaoboadccnnmaaWWords
import Derived.Test.YtpaoboadccnnmaaWLast
import Derived.Test.YtpaoboadccnnmaaWTab
import Derived.Test.YtpaoboadccnnmaaWFour
import Derived.Test.YtpaoboadccnnmaaWQPut
import Derived.Test.YtpaoboadccnnmaaWApart
import Derived.Test.YtpaoboadccnnmaaWArr
import Derived.Test.YtpaoboadccnnmaaWZeros
import Derived.Test.YtpaoboadccnnmaaWFoot
import Derived.Test.YtpaoboadccnnmaaWKept
import Derived.Test.YtpaoboadccnnmaaWShare
import Derived.Test.YtpaoboadccnnmaaWN
import Derived.Test.YtpaoboadccnnmaaWFootNe
import Derived.Test.YtpaoboadccnnmaaWAt
import Derived.Test.YtpaoboadccnnmaaWEqStruct
import Derived.Test.YtpaoboadccnnmaaWRepsOne
import Derived.Test.YtpaoboadccnnmaaWInv
import Derived.Test.YtpaoboadccnnmaaWInvWords
import Derived.Test.YtpaoboadccnnmaaWGuard
import Derived.Test.YtpaoboadccnnmaaWNEv
import Derived.Test.YtpaoboadccnnmaaWMore
namespace Go.Proofs.Ytpaoboadccnnmaa.PA
open Go.RowKit Go.Proofs.YtpaoboadccnnmaaW.PrintWords Go.Proofs.YtpaoboadccnnmaaW.PrintLast Go.Proofs.YtpaoboadccnnmaaW.PrintMore
attribute [local go_sem] max2_int min2_int max_two min_two max_three min_three max_four min_four   -- for this text's walks alone
set_option linter.unusedVariables false
set_option linter.unusedSimpArgs false



def errW : Option Int → Value
  | none => .nilIface
  | some c => .iface 0 (.int .i64 c)
theorem errW_none : errW none = .nilIface := rfl
theorem errW_some (c : Int) : errW (some c) = .iface 0 (.int .i64 c) := rfl

theorem info3 : (Try.prog.info? 3).map (fun i => (i.zero, i.size, i.bytes)) = some (some (.int .i64 0), 1, 8) := by kernel_rfl
theorem info5 : (Try.prog.info? 5).map (fun i => (i.zero, i.size, i.bytes)) = some (some (.int .u8 0), 1, 1) := by kernel_rfl
-- the values' own types

end Go.Proofs.Ytpaoboadccnnmaa.PA
