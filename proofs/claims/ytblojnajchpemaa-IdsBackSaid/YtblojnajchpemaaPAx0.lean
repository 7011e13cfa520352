/- The steps of the machine for these functions, written out by this session's program wip/printmore.py; Lean checks every line. -/
import Derived.Test.YtblojnajchpemaaProg
import Derived.Below
import Derived.Deep.Draws
import Derived.Deep.AppendLies
import Derived.Maps.AppendAt
import Derived.OwnWalk
import Derived.Laws.BytesArg
import Derived.Laws.MakeOwn
import Derived.Laws.OwnMore
import Derived.Deep.OwnRows
import Derived.Tactics
import Derived.Lib.ConvBytes
import Derived.Laws.Slices
import Derived.WalkKit
import Derived.KernelRfl
import Derived.RowKit3
import Derived.Deep.LoopGhost
import Derived.Deep.QuietTactic
import Derived.BigQuiet
import Derived.WideLaws
import Derived.Deep.DeepCutAuto
import Derived.Deep.CutBlock
import Derived.Deep.RegionHeld3
import Derived.Laws.Rows
import Derived.Lib.AppendStr
import Derived.ArgAppend
import Derived.Laws.IdiomCopy
import Derived.OrdersHeld
import Derived.Laws.BitsLemmas
import Derived.RowKit
import Derived.WalkSpells
import Derived.Lib.LazyBuf
import Derived.Lib.SlBytesConst
import Derived.Test.YtblojnajchpemaaWWords
import Derived.Test.YtblojnajchpemaaWLast
import Derived.Test.YtblojnajchpemaaWTab
import Derived.Test.YtblojnajchpemaaWFour
import Derived.Test.YtblojnajchpemaaWQPut
import Derived.Test.YtblojnajchpemaaWApart
import Derived.Test.YtblojnajchpemaaWArr
import Derived.Test.YtblojnajchpemaaWZeros
import Derived.Test.YtblojnajchpemaaWFoot
import Derived.Test.YtblojnajchpemaaWKept
import Derived.Test.YtblojnajchpemaaWShare
import Derived.Test.YtblojnajchpemaaWN
import Derived.Test.YtblojnajchpemaaWFootNe
import Derived.Test.YtblojnajchpemaaWAt
import Derived.Test.YtblojnajchpemaaWEqStruct
import Derived.Test.YtblojnajchpemaaWRepsOne
import Derived.Test.YtblojnajchpemaaWInv
import Derived.Test.YtblojnajchpemaaWInvWords
import Derived.Test.YtblojnajchpemaaWGuard
import Derived.Test.YtblojnajchpemaaWNEv
import Derived.Test.YtblojnajchpemaaWMore
namespace Go.Proofs.Ytblojnajchpemaa.PA
open Go.RowKit Go.Proofs.YtblojnajchpemaaW.PrintWords Go.Proofs.YtblojnajchpemaaW.PrintLast Go.Proofs.YtblojnajchpemaaW.PrintMore
attribute [local go_sem] max2_int min2_int max_two min_two max_three min_three max_four min_four   -- for this text's walks alone
set_option linter.unusedVariables false
set_option linter.unusedSimpArgs false



def errW : Option Int → Value
  | none => .nilIface
  | some c => .iface 0 (.int .i64 c)
theorem errW_none : errW none = .nilIface := rfl
theorem errW_some (c : Int) : errW (some c) = .iface 0 (.int .i64 c) := rfl

theorem info3 : (Try.prog.info? 3).map (fun i => (i.zero, i.size, i.bytes)) = some (some (.int .i64 0), 1, 8) := by kernel_rfl
theorem info5 : (Try.prog.info? 5).map (fun i => (i.zero, i.size, i.bytes)) = some (some (.int .u8 0), 1, 1) := by kernel_rfl
-- the values' own types

end Go.Proofs.Ytblojnajchpemaa.PA
