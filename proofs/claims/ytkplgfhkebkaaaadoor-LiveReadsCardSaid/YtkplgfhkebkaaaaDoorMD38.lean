/- Texts of this claim, pruned to what it needs and laid together by prune.py. -/
import Derived.Test.YtkplgfhkebkaaaaDoorProg
import Derived.Below
import Derived.Deep.Draws
import Derived.Deep.AppendLies
import Derived.Maps.AppendAt
import Derived.OwnWalk
import Derived.Laws.BytesArg
import Derived.Laws.MakeOwn
import Derived.Laws.OwnMore
import Derived.Deep.OwnRows
import Derived.Tactics
import Derived.Lib.ConvBytes
import Derived.Laws.Slices
import Derived.WalkKit
import Derived.KernelRfl
import Derived.RowKit3
import Derived.Deep.LoopGhost
import Derived.Deep.QuietTactic
import Derived.BigQuiet
import Derived.WideLaws
import Derived.Deep.DeepCutAuto
import Derived.Deep.CutBlock
import Derived.Deep.RegionHeld3
import Derived.Laws.Rows
import Derived.Lib.AppendStr
import Derived.ArgAppend
import Derived.Laws.IdiomCopy
import Derived.OrdersHeld
import Derived.Laws.BitsLemmas
import Derived.RowKit
import Derived.Test.YtkplgfhkebkaaaaDoorMD25
import Derived.Test.YtkplgfhkebkaaaaDoorMD29
import Derived.Test.YtkplgfhkebkaaaaDoorMD30
import Derived.Test.YtkplgfhkebkaaaaDoorMD1
import Derived.Test.YtkplgfhkebkaaaaDoorMD3
import Derived.Test.YtkplgfhkebkaaaaDoorMD15
import Derived.Test.YtkplgfhkebkaaaaDoorMD16
import Derived.Test.YtkplgfhkebkaaaaDoorMD4
import Derived.Test.YtkplgfhkebkaaaaDoorMD5
import Derived.Test.YtkplgfhkebkaaaaDoorMD6
import Derived.Test.YtkplgfhkebkaaaaDoorMD7
import Derived.Test.YtkplgfhkebkaaaaDoorMD8
import Derived.Test.YtkplgfhkebkaaaaDoorMD9
import Derived.Test.YtkplgfhkebkaaaaDoorMD10
import Derived.Test.YtkplgfhkebkaaaaDoorMD11
import Derived.Test.YtkplgfhkebkaaaaDoorMD17
import Derived.Test.YtkplgfhkebkaaaaDoorMD18
import Derived.Test.YtkplgfhkebkaaaaDoorMD19
import Derived.Test.YtkplgfhkebkaaaaDoorMD20
import Derived.Test.YtkplgfhkebkaaaaDoorMD21
import Derived.Test.YtkplgfhkebkaaaaDoorMD22
import Derived.Test.YtkplgfhkebkaaaaDoorMD23
import Derived.Test.YtkplgfhkebkaaaaDoorMD12
import Derived.Test.YtkplgfhkebkaaaaDoorMD13
namespace Go.Proofs.YtkplgfhkebkaaaaDoor.XD
open Go.RowKit Go.Proofs.YtkplgfhkebkaaaaDoorW.PrintWords Go.Proofs.YtkplgfhkebkaaaaDoorW.PrintLast Go.Proofs.YtkplgfhkebkaaaaDoorW.PrintMore
attribute [local go_sem] max2_int min2_int max_two min_two max_three min_three max_four min_four
set_option linter.unusedVariables false
set_option linter.unusedSimpArgs false
open Go.Proofs.YtkplgfhkebkaaaaDoor.F
open Go.Proofs.YtkplgfhkebkaaaaDoor.FG
open Go.Proofs.YtkplgfhkebkaaaaDoor.V
theorem info5 : (Tryd.prog.info? 5).map (fun i => (i.zero, i.size, i.bytes)) = some (some (.int .u8 0), 1, 1) := by kernel_rfl
noncomputable def rd_L1 (xs : List (List ByteArray)) (i : Int) : (List ByteArray) := xs.getD i.toNat ([] : List ByteArray)
noncomputable def rd_L5 (xs : List (List S47)) (i : Int) : (List S47) := xs.getD i.toNat ([] : List S47)
noncomputable def rd_L6 (xs : List (List Int)) (i : Int) : (List Int) := xs.getD i.toNat ([] : List Int)
end Go.Proofs.YtkplgfhkebkaaaaDoor.XD
