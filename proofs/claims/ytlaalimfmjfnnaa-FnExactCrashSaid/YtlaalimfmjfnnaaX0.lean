-- Written by a program of this session (wip/tools/xprint.py, over the kit's printer) out of the translation.
import Derived.Test.YtlaalimfmjfnnaaProg
import Derived.Below
import Derived.Deep.Draws
import Derived.Deep.AppendLies
import Derived.Maps.AppendAt
import Derived.OwnWalk
import Derived.Laws.BytesArg
import Derived.Laws.MakeOwn
import Derived.Laws.OwnMore
import Derived.Deep.OwnRows
import Derived.Tactics
import Derived.Lib.ConvBytes
import Derived.Laws.Slices
import Derived.WalkKit
import Derived.KernelRfl
import Derived.RowKit3
import Derived.Deep.LoopGhost
import Derived.Deep.QuietTactic
import Derived.BigQuiet
import Derived.WideLaws
import Derived.Deep.DeepCutAuto
import Derived.Deep.CutBlock
import Derived.Deep.RegionHeld3
import Derived.Laws.Rows
import Derived.Lib.AppendStr
import Derived.ArgAppend
import Derived.Laws.IdiomCopy
import Derived.OrdersHeld
import Derived.Laws.BitsLemmas
import Derived.RowKit
import Derived.Test.YtlaalimfmjfnnaaWWords
import Derived.Test.YtlaalimfmjfnnaaWLast
import Derived.Test.YtlaalimfmjfnnaaWTab
import Derived.Test.YtlaalimfmjfnnaaWFour
import Derived.Test.YtlaalimfmjfnnaaWQPut
import Derived.Test.YtlaalimfmjfnnaaWApart
import Derived.Test.YtlaalimfmjfnnaaWArr
import Derived.Test.YtlaalimfmjfnnaaWZeros
import Derived.Test.YtlaalimfmjfnnaaWFoot
import Derived.Test.YtlaalimfmjfnnaaWKept
import Derived.Test.YtlaalimfmjfnnaaWShare
import Derived.Test.YtlaalimfmjfnnaaWN
import Derived.Test.YtlaalimfmjfnnaaWFootNe
import Derived.Test.YtlaalimfmjfnnaaWAt
import Derived.Test.YtlaalimfmjfnnaaWEqStruct
import Derived.Test.YtlaalimfmjfnnaaWRepsOne
import Derived.Test.YtlaalimfmjfnnaaWInv
import Derived.Test.YtlaalimfmjfnnaaWInvWords
import Derived.Test.YtlaalimfmjfnnaaWGuard
import Derived.Test.YtlaalimfmjfnnaaWNEv
import Derived.Test.YtlaalimfmjfnnaaWMore
namespace Go.Proofs.Ytlaalimfmjfnnaa.X
open Go.RowKit Go.Proofs.YtlaalimfmjfnnaaW.PrintWords Go.Proofs.YtlaalimfmjfnnaaW.PrintLast Go.Proofs.YtlaalimfmjfnnaaW.PrintMore
attribute [local go_sem] max2_int min2_int max_two min_two max_three min_three max_four min_four   -- for this text's walks alone
set_option linter.unusedVariables false
set_option linter.unusedSimpArgs false



def errW : Option Int → Value
  | none => .nilIface
  | some c => .iface 0 (.int .i64 c)
theorem errW_none : errW none = .nilIface := rfl
theorem errW_some (c : Int) : errW (some c) = .iface 0 (.int .i64 c) := rfl

-- the values' own types

end Go.Proofs.Ytlaalimfmjfnnaa.X
