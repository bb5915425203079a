/- Texts of this claim, pruned to what it needs and laid together by prune.py. -/
import Derived.Test.YtkmkfiidlbhcgaaDoorProg
import Derived.Below
import Derived.Deep.Draws
import Derived.Deep.AppendLies
import Derived.Maps.AppendAt
import Derived.OwnWalk
import Derived.Laws.BytesArg
import Derived.Laws.MakeOwn
import Derived.Laws.OwnMore
import Derived.Deep.OwnRows
import Derived.Tactics
import Derived.Lib.ConvBytes
import Derived.Laws.Slices
import Derived.WalkKit
import Derived.KernelRfl
import Derived.RowKit3
import Derived.Deep.LoopGhost
import Derived.Deep.QuietTactic
import Derived.BigQuiet
import Derived.WideLaws
import Derived.Deep.DeepCutAuto
import Derived.Deep.CutBlock
import Derived.Deep.RegionHeld3
import Derived.Laws.Rows
import Derived.Lib.AppendStr
import Derived.ArgAppend
import Derived.Laws.IdiomCopy
import Derived.OrdersHeld
import Derived.Laws.BitsLemmas
import Derived.RowKit
import Derived.Test.YtkmkfiidlbhcgaaDoorME24
import Derived.Test.YtkmkfiidlbhcgaaDoorME25
import Derived.Test.YtkmkfiidlbhcgaaDoorME26
import Derived.Test.YtkmkfiidlbhcgaaDoorME1
import Derived.Test.YtkmkfiidlbhcgaaDoorME3
import Derived.Test.YtkmkfiidlbhcgaaDoorME4
import Derived.Test.YtkmkfiidlbhcgaaDoorME5
import Derived.Test.YtkmkfiidlbhcgaaDoorME6
import Derived.Test.YtkmkfiidlbhcgaaDoorME7
import Derived.Test.YtkmkfiidlbhcgaaDoorME8
import Derived.Test.YtkmkfiidlbhcgaaDoorME9
import Derived.Test.YtkmkfiidlbhcgaaDoorME10
import Derived.Test.YtkmkfiidlbhcgaaDoorME11
import Derived.Test.YtkmkfiidlbhcgaaDoorME12
import Derived.Test.YtkmkfiidlbhcgaaDoorME13
import Derived.Test.YtkmkfiidlbhcgaaDoorME14
import Derived.Test.YtkmkfiidlbhcgaaDoorME15
import Derived.Test.YtkmkfiidlbhcgaaDoorME16
import Derived.Test.YtkmkfiidlbhcgaaDoorME17
import Derived.Test.YtkmkfiidlbhcgaaDoorME18
import Derived.Test.YtkmkfiidlbhcgaaDoorME19
import Derived.Test.YtkmkfiidlbhcgaaDoorME20
import Derived.Test.YtkmkfiidlbhcgaaDoorME21
import Derived.Test.YtkmkfiidlbhcgaaDoorME22
namespace Go.Proofs.YtkmkfiidlbhcgaaDoor.XD
open Go.RowKit Go.Proofs.YtkmkfiidlbhcgaaDoorW.PrintWords Go.Proofs.YtkmkfiidlbhcgaaDoorW.PrintLast Go.Proofs.YtkmkfiidlbhcgaaDoorW.PrintMore
attribute [local go_sem] max2_int min2_int max_two min_two max_three min_three max_four min_four
set_option linter.unusedVariables false
set_option linter.unusedSimpArgs false
open Go.Proofs.YtkmkfiidlbhcgaaDoor.F
open Go.Proofs.YtkmkfiidlbhcgaaDoor.FG
open Go.Proofs.YtkmkfiidlbhcgaaDoor.V
theorem info5 : (Tryd.prog.info? 5).map (fun i => (i.zero, i.size, i.bytes)) = some (some (.int .u8 0), 1, 1) := by kernel_rfl
noncomputable def rd_L1 (xs : List (List ByteArray)) (i : Int) : (List ByteArray) := xs.getD i.toNat ([] : List ByteArray)
noncomputable def rd_L5 (xs : List (List S36)) (i : Int) : (List S36) := xs.getD i.toNat ([] : List S36)
noncomputable def rd_L6 (xs : List (List Int)) (i : Int) : (List Int) := xs.getD i.toNat ([] : List Int)
end Go.Proofs.YtkmkfiidlbhcgaaDoor.XD
