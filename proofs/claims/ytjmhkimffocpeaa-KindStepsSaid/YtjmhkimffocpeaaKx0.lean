-- printed over print.py by myprint.py (a program of this session's) for the claims of this seat
import Derived.Test.YtjmhkimffocpeaaProg
import Derived.Below
import Derived.Deep.Draws
import Derived.Deep.AppendLies
import Derived.Maps.AppendAt
import Derived.OwnWalk
import Derived.Laws.BytesArg
import Derived.Laws.MakeOwn
import Derived.Laws.OwnMore
import Derived.Deep.OwnRows
import Derived.Tactics
import Derived.Lib.ConvBytes
import Derived.Laws.Slices
import Derived.WalkKit
import Derived.KernelRfl
import Derived.RowKit3
import Derived.Deep.LoopGhost
import Derived.Deep.QuietTactic
import Derived.BigQuiet
import Derived.WideLaws
import Derived.Deep.DeepCutAuto
import Derived.Deep.CutBlock
import Derived.Deep.RegionHeld3
import Derived.Laws.Rows
import Derived.Lib.AppendStr
import Derived.ArgAppend
import Derived.Laws.IdiomCopy
import Derived.OrdersHeld
import Derived.Laws.BitsLemmas
import Derived.RowKit
import Derived.Test.YtjmhkimffocpeaaWWords
import Derived.Test.YtjmhkimffocpeaaWLast
import Derived.Test.YtjmhkimffocpeaaWTab
import Derived.Test.YtjmhkimffocpeaaWFour
import Derived.Test.YtjmhkimffocpeaaWQPut
import Derived.Test.YtjmhkimffocpeaaWApart
import Derived.Test.YtjmhkimffocpeaaWArr
import Derived.Test.YtjmhkimffocpeaaWZeros
import Derived.Test.YtjmhkimffocpeaaWFoot
import Derived.Test.YtjmhkimffocpeaaWKept
import Derived.Test.YtjmhkimffocpeaaWShare
import Derived.Test.YtjmhkimffocpeaaWN
import Derived.Test.YtjmhkimffocpeaaWFootNe
import Derived.Test.YtjmhkimffocpeaaWAt
import Derived.Test.YtjmhkimffocpeaaWEqStruct
import Derived.Test.YtjmhkimffocpeaaWRepsOne
import Derived.Test.YtjmhkimffocpeaaWInv
import Derived.Test.YtjmhkimffocpeaaWInvWords
import Derived.Test.YtjmhkimffocpeaaWGuard
import Derived.Test.YtjmhkimffocpeaaWNEv
import Derived.Test.YtjmhkimffocpeaaWMore
namespace Go.Proofs.Ytjmhkimffocpeaa.K
open Go.RowKit Go.Proofs.YtjmhkimffocpeaaW.PrintWords Go.Proofs.YtjmhkimffocpeaaW.PrintLast Go.Proofs.YtjmhkimffocpeaaW.PrintMore
attribute [local go_sem] max2_int min2_int max_two min_two max_three min_three max_four min_four   -- for this text's walks alone
set_option linter.unusedVariables false
set_option linter.unusedSimpArgs false



def errW : Option Int → Value
  | none => .nilIface
  | some c => .iface 0 (.int .i64 c)
theorem errW_none : errW none = .nilIface := rfl
theorem errW_some (c : Int) : errW (some c) = .iface 0 (.int .i64 c) := rfl

-- the values' own types

end Go.Proofs.Ytjmhkimffocpeaa.K
