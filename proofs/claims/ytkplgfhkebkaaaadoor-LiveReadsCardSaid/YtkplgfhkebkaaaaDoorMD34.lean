/- Texts of this claim, pruned to what it needs and laid together by prune.py. -/
import Derived.Test.YtkplgfhkebkaaaaDoorProg
import Derived.Below
import Derived.Deep.Draws
import Derived.Deep.AppendLies
import Derived.Maps.AppendAt
import Derived.OwnWalk
import Derived.Laws.BytesArg
import Derived.Laws.MakeOwn
import Derived.Laws.OwnMore
import Derived.Deep.OwnRows
import Derived.Tactics
import Derived.Lib.ConvBytes
import Derived.Laws.Slices
import Derived.WalkKit
import Derived.KernelRfl
import Derived.RowKit3
import Derived.Deep.LoopGhost
import Derived.Deep.QuietTactic
import Derived.BigQuiet
import Derived.WideLaws
import Derived.Deep.DeepCutAuto
import Derived.Deep.CutBlock
import Derived.Deep.RegionHeld3
import Derived.Laws.Rows
import Derived.Lib.AppendStr
import Derived.ArgAppend
import Derived.Laws.IdiomCopy
import Derived.OrdersHeld
import Derived.Laws.BitsLemmas
import Derived.RowKit
import Derived.Test.YtkplgfhkebkaaaaDoorMD25
import Derived.Test.YtkplgfhkebkaaaaDoorMD29
import Derived.Test.YtkplgfhkebkaaaaDoorMD30
import Derived.Test.YtkplgfhkebkaaaaDoorMD32
import Derived.Test.YtkplgfhkebkaaaaDoorMD1
import Derived.Test.YtkplgfhkebkaaaaDoorMD3
import Derived.Test.YtkplgfhkebkaaaaDoorMD15
import Derived.Test.YtkplgfhkebkaaaaDoorMD16
import Derived.Test.YtkplgfhkebkaaaaDoorMD4
import Derived.Test.YtkplgfhkebkaaaaDoorMD5
import Derived.Test.YtkplgfhkebkaaaaDoorMD6
import Derived.Test.YtkplgfhkebkaaaaDoorMD7
import Derived.Test.YtkplgfhkebkaaaaDoorMD8
import Derived.Test.YtkplgfhkebkaaaaDoorMD9
import Derived.Test.YtkplgfhkebkaaaaDoorMD10
import Derived.Test.YtkplgfhkebkaaaaDoorMD11
import Derived.Test.YtkplgfhkebkaaaaDoorMD17
import Derived.Test.YtkplgfhkebkaaaaDoorMD18
import Derived.Test.YtkplgfhkebkaaaaDoorMD19
import Derived.Test.YtkplgfhkebkaaaaDoorMD20
import Derived.Test.YtkplgfhkebkaaaaDoorMD21
import Derived.Test.YtkplgfhkebkaaaaDoorMD22
import Derived.Test.YtkplgfhkebkaaaaDoorMD23
import Derived.Test.YtkplgfhkebkaaaaDoorMD12
import Derived.Test.YtkplgfhkebkaaaaDoorMD13
namespace Go.Proofs.YtkplgfhkebkaaaaDoor.ZD
open Go.RowKit Go.Proofs.YtkplgfhkebkaaaaDoorW.PrintWords Go.Proofs.YtkplgfhkebkaaaaDoorW.PrintLast Go.Proofs.YtkplgfhkebkaaaaDoorW.PrintMore
attribute [local go_sem] max2_int min2_int max_two min_two max_three min_three max_four min_four
set_option linter.unusedVariables false
set_option linter.unusedSimpArgs false
open Go.Proofs.YtkplgfhkebkaaaaDoor.F
open Go.Proofs.YtkplgfhkebkaaaaDoor.FG
open Go.Proofs.YtkplgfhkebkaaaaDoor.V
open Go.Proofs.YtkplgfhkebkaaaaDoor.Z
theorem info5 : (Tryd.prog.info? 5).map (fun i => (i.zero, i.size, i.bytes)) = some (some (.int .u8 0), 1, 1) := by kernel_rfl
noncomputable def rd_L1 (xs : List (List ByteArray)) (i : Int) : (List ByteArray) := xs.getD i.toNat ([] : List ByteArray)
noncomputable def rd_L5 (xs : List (List S47)) (i : Int) : (List S47) := xs.getD i.toNat ([] : List S47)
noncomputable def rd_L6 (xs : List (List Int)) (i : Int) : (List Int) := xs.getD i.toNat ([] : List Int)
end Go.Proofs.YtkplgfhkebkaaaaDoor.ZD

namespace Go.Proofs.YtkplgfhkebkaaaaDoor.ZD
open Go.RowKit Go.Proofs.YtkplgfhkebkaaaaDoorW.PrintWords Go.Proofs.YtkplgfhkebkaaaaDoorW.PrintLast Go.Proofs.YtkplgfhkebkaaaaDoorW.PrintMore
attribute [local go_sem] max2_int min2_int max_two min_two max_three min_three max_four min_four
set_option linter.unusedVariables false
set_option linter.unusedSimpArgs false
open Go.Proofs.YtkplgfhkebkaaaaDoor.F
open Go.Proofs.YtkplgfhkebkaaaaDoor.FG
open Go.Proofs.YtkplgfhkebkaaaaDoor.V
open Go.Proofs.YtkplgfhkebkaaaaDoor.Z
end Go.Proofs.YtkplgfhkebkaaaaDoor.ZD

namespace Go.Proofs.YtkplgfhkebkaaaaDoor.ZD
open Go.RowKit Go.Proofs.YtkplgfhkebkaaaaDoorW.PrintWords Go.Proofs.YtkplgfhkebkaaaaDoorW.PrintLast Go.Proofs.YtkplgfhkebkaaaaDoorW.PrintMore
attribute [local go_sem] max2_int min2_int max_two min_two max_three min_three max_four min_four
set_option linter.unusedVariables false
set_option linter.unusedSimpArgs false
open Go.Proofs.YtkplgfhkebkaaaaDoor.F
open Go.Proofs.YtkplgfhkebkaaaaDoor.FG
open Go.Proofs.YtkplgfhkebkaaaaDoor.V
open Go.Proofs.YtkplgfhkebkaaaaDoor.Z
mutual
noncomputable def fresh_In.l0 : Nat → List Int → List Int → Int → Int → List ByteArray → ByteArray → ByteArray → List (S47) → Option (List Int)
  | 0, _, _, _, _, _, _, _, _ => none
  | k + 1, x3, x4, x19, x20, x102000, x102001, x102002, x102003 => if x20 < x19 then (if 0 ≤ x20 then (if x20 < (x3.length : Int) then (if x4.length < 17592186044416 then (fresh_In.l0 k (x3.set (x20 : Int).toNat 255) (x4 ++ [x20]) x19 (wrap64 (x20 + 1)) x102000 x102001 x102002 x102003) else (none)) else (none)) else (none)) else (fresh_In.l1 k x3 x4 x102000 x102001 x102002 x102003)
noncomputable def fresh_In.l1 : Nat → List Int → List Int → List ByteArray → ByteArray → ByteArray → List (S47) → Option (List Int)
  | 0, _, _, _, _, _, _ => none
  | k + 1, x3, x4, x102000, x102001, x102002, x102003 => if (x4.length : Int) > 0 then (if 0 < (x4.length : Int) then (if 1 ≤ (x4.length : Int) then (if 0 ≤ (rd x4 0) then (if (rd x4 0) < (x3.length : Int) then ((fresh_Out.f k x102000 x102001 x102002 x102003 (rd x4 0) (rd x3 (rd x4 0))).bind fun t117 => ((flow_Next.f x102000 x102001 x102002 x102003 (rd x4 0)).bind fun t118 => (fresh_In.l2 k x3 (x4.drop (1 : Int).toNat) t117 t118 (t118.length : Int) 0 x102000 x102001 x102002 x102003))) else (none)) else (none)) else (none)) else (none)) else (some x3)
noncomputable def fresh_In.l2 : Nat → List Int → List Int → Int → List Int → Int → Int → List ByteArray → ByteArray → ByteArray → List (S47) → Option (List Int)
  | 0, _, _, _, _, _, _, _, _, _, _ => none
  | k + 1, x3, x4, x7, x48, x49, x50, x102000, x102001, x102002, x102003 => if x50 < x49 then (if 0 ≤ x50 then (if x50 < (x48.length : Int) then (if (rd x48 x50) ≥ 0 then (if (rd x48 x50) < (x3.length : Int) then (if 0 ≤ (rd x48 x50) then (if (Go.bits .and .u8 (rd x3 (rd x48 x50)) x7) = (rd x3 (rd x48 x50)) then (fresh_In.l2 k x3 x4 x7 x48 x49 (wrap64 (x50 + 1)) x102000 x102001 x102002 x102003) else (if x4.length < 17592186044416 then (fresh_In.l2 k (x3.set ((rd x48 x50) : Int).toNat (Go.bits .and .u8 (rd x3 (rd x48 x50)) x7)) (x4 ++ [rd x48 x50]) x7 x48 x49 (wrap64 (x50 + 1)) x102000 x102001 x102002 x102003) else (none))) else (none)) else (fresh_In.l2 k x3 x4 x7 x48 x49 (wrap64 (x50 + 1)) x102000 x102001 x102002 x102003)) else (fresh_In.l2 k x3 x4 x7 x48 x49 (wrap64 (x50 + 1)) x102000 x102001 x102002 x102003)) else (none)) else (none)) else (fresh_In.l1 k x3 x4 x102000 x102001 x102002 x102003)
end
noncomputable def fresh_In.f (k : Nat) (l0_0 : List ByteArray) (a0_1 : ByteArray) (a0_2 : ByteArray) (l0_3 : List (S47)) : Option (List Int) := if 0 ≤ (wrap64 ((l0_3.length : Int) + 1)) then (if (wrap64 ((l0_3.length : Int) + 1) : Int).toNat ≤ 281474976710656 then ((some (List.replicate (wrap64 ((l0_3.length : Int) + 1) : Int).toNat 0 : List Int)).bind fun y102 => (if y102.length ≤ 35184372088832 then (fresh_In.l0 k y102 (List.replicate 0 0) (y102.length : Int) 0 l0_0 a0_1 a0_2 l0_3) else (none))) else (none)) else (none)
noncomputable def fresh_In.T12 : Bool × List (List Nat × List Nat) := (true, [([], []), ([], []), ([], []), ([], []), ([2, 3], [2, 3]), ([4], [4]), ([0, 1, 5], [0, 1, 5]), ([6, 6, 0, 1, 2, 3, 4, 5, 6], [6])])
noncomputable def fresh_In.B12 : List Nat := [0, 0, 0, 0, 12, 28, 63, 127]
noncomputable def fresh_In.T16 : Bool × List (List Nat × List Nat) := (true, [([], []), ([0], [0]), ([1], [1]), ([2], [2]), ([2], [2]), ([4, 2], [2, 4]), ([3, 5, 2], [2, 3, 5]), ([2, 6], [2, 6]), ([7, 2], [7]), ([8], [8]), ([8], [8]), ([9, 10, 8], [8, 9, 10]), ([11, 8], [8, 11]), ([8], [8]), ([12, 13, 8], [8, 12, 13]), ([8], [8]), ([8], [8]), ([15, 16, 8], [8, 15, 16]), ([17, 8], [8, 17]), ([14, 18, 8], [8, 14, 18]), ([8, 19], [8, 19])])
noncomputable def fresh_In.B16 : List Nat := [0, 1, 3, 7, 7, 23, 63, 127, 255, 511, 511, 2047, 4095, 511, 16383, 511, 511, 98815, 229887, 524287, 1048575]
end Go.Proofs.YtkplgfhkebkaaaaDoor.ZD

namespace Go.Proofs.YtkplgfhkebkaaaaDoor.ZD
open Go.RowKit Go.Proofs.YtkplgfhkebkaaaaDoorW.PrintWords Go.Proofs.YtkplgfhkebkaaaaDoorW.PrintLast Go.Proofs.YtkplgfhkebkaaaaDoorW.PrintMore
attribute [local go_sem] max2_int min2_int max_two min_two max_three min_three max_four min_four
set_option linter.unusedVariables false
set_option linter.unusedSimpArgs false
open Go.Proofs.YtkplgfhkebkaaaaDoor.F
open Go.Proofs.YtkplgfhkebkaaaaDoor.FG
open Go.Proofs.YtkplgfhkebkaaaaDoor.V
open Go.Proofs.YtkplgfhkebkaaaaDoor.Z
end Go.Proofs.YtkplgfhkebkaaaaDoor.ZD
