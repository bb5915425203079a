/- Texts of this claim, pruned to what it needs and laid together by prune.py. -/
import Derived.Test.YtkmkfiidlbhcgaaDoorProg
import Derived.Below
import Derived.Deep.Draws
import Derived.Deep.AppendLies
import Derived.Maps.AppendAt
import Derived.OwnWalk
import Derived.Laws.BytesArg
import Derived.Laws.MakeOwn
import Derived.Laws.OwnMore
import Derived.Deep.OwnRows
import Derived.Tactics
import Derived.Lib.ConvBytes
import Derived.Laws.Slices
import Derived.WalkKit
import Derived.KernelRfl
import Derived.RowKit3
import Derived.Deep.LoopGhost
import Derived.Deep.QuietTactic
import Derived.BigQuiet
import Derived.WideLaws
import Derived.Deep.DeepCutAuto
import Derived.Deep.CutBlock
import Derived.Deep.RegionHeld3
import Derived.Laws.Rows
import Derived.Lib.AppendStr
import Derived.ArgAppend
import Derived.Laws.IdiomCopy
import Derived.OrdersHeld
import Derived.Laws.BitsLemmas
import Derived.RowKit
import Derived.Test.YtkmkfiidlbhcgaaDoorMO24
import Derived.Test.YtkmkfiidlbhcgaaDoorMO28
import Derived.Test.YtkmkfiidlbhcgaaDoorMO30
import Derived.Test.YtkmkfiidlbhcgaaDoorMO1
import Derived.Test.YtkmkfiidlbhcgaaDoorMO3
import Derived.Test.YtkmkfiidlbhcgaaDoorMO4
import Derived.Test.YtkmkfiidlbhcgaaDoorMO5
import Derived.Test.YtkmkfiidlbhcgaaDoorMO6
import Derived.Test.YtkmkfiidlbhcgaaDoorMO7
import Derived.Test.YtkmkfiidlbhcgaaDoorMO8
import Derived.Test.YtkmkfiidlbhcgaaDoorMO9
import Derived.Test.YtkmkfiidlbhcgaaDoorMO10
import Derived.Test.YtkmkfiidlbhcgaaDoorMO11
import Derived.Test.YtkmkfiidlbhcgaaDoorMO12
import Derived.Test.YtkmkfiidlbhcgaaDoorMO13
import Derived.Test.YtkmkfiidlbhcgaaDoorMO14
import Derived.Test.YtkmkfiidlbhcgaaDoorMO15
import Derived.Test.YtkmkfiidlbhcgaaDoorMO16
import Derived.Test.YtkmkfiidlbhcgaaDoorMO17
import Derived.Test.YtkmkfiidlbhcgaaDoorMO18
import Derived.Test.YtkmkfiidlbhcgaaDoorMO19
import Derived.Test.YtkmkfiidlbhcgaaDoorMO20
import Derived.Test.YtkmkfiidlbhcgaaDoorMO21
import Derived.Test.YtkmkfiidlbhcgaaDoorMO22
namespace Go.Proofs.YtkmkfiidlbhcgaaDoor.ZE
open Go.RowKit Go.Proofs.YtkmkfiidlbhcgaaDoorW.PrintWords Go.Proofs.YtkmkfiidlbhcgaaDoorW.PrintLast Go.Proofs.YtkmkfiidlbhcgaaDoorW.PrintMore
attribute [local go_sem] max2_int min2_int max_two min_two max_three min_three max_four min_four
set_option linter.unusedVariables false
set_option linter.unusedSimpArgs false
open Go.Proofs.YtkmkfiidlbhcgaaDoor.F
open Go.Proofs.YtkmkfiidlbhcgaaDoor.V
open Go.Proofs.YtkmkfiidlbhcgaaDoor.Z
theorem info5 : (Tryd.prog.info? 5).map (fun i => (i.zero, i.size, i.bytes)) = some (some (.int .u8 0), 1, 1) := by kernel_rfl
noncomputable def rd_L1 (xs : List (List ByteArray)) (i : Int) : (List ByteArray) := xs.getD i.toNat ([] : List ByteArray)
noncomputable def rd_L5 (xs : List (List S36)) (i : Int) : (List S36) := xs.getD i.toNat ([] : List S36)
noncomputable def rd_L6 (xs : List (List Int)) (i : Int) : (List Int) := xs.getD i.toNat ([] : List Int)
end Go.Proofs.YtkmkfiidlbhcgaaDoor.ZE

namespace Go.Proofs.YtkmkfiidlbhcgaaDoor.ZE
open Go.RowKit Go.Proofs.YtkmkfiidlbhcgaaDoorW.PrintWords Go.Proofs.YtkmkfiidlbhcgaaDoorW.PrintLast Go.Proofs.YtkmkfiidlbhcgaaDoorW.PrintMore
attribute [local go_sem] max2_int min2_int max_two min_two max_three min_three max_four min_four
set_option linter.unusedVariables false
set_option linter.unusedSimpArgs false
open Go.Proofs.YtkmkfiidlbhcgaaDoor.F
open Go.Proofs.YtkmkfiidlbhcgaaDoor.V
open Go.Proofs.YtkmkfiidlbhcgaaDoor.Z
mutual
noncomputable def lockstitchref09_In.l0 : Nat → List Int → Int → List ByteArray → ByteArray → ByteArray → List (S36) → Option (List Int)
  | 0, _, _, _, _, _, _ => none
  | k + 1, x3, x4, x102000, x102001, x102002, x102003 => if x4 ≤ (x102003.length : Int) then (if 0 ≤ x4 then (if x4 < (x3.length : Int) then (lockstitchref09_In.l0 k (x3.set (x4 : Int).toNat 255) (wrap64 (x4 + 1)) x102000 x102001 x102002 x102003) else (none)) else (none)) else (lockstitchref09_In.l1 k x3 0 x102000 x102001 x102002 x102003)
noncomputable def lockstitchref09_In.l1 : Nat → List Int → Int → List ByteArray → ByteArray → ByteArray → List (S36) → Option (List Int)
  | 0, _, _, _, _, _, _ => none
  | k + 1, x3, x5, x102000, x102001, x102002, x102003 => if x5 ≤ (wrap64 (8 * (x102003.length : Int))) then (lockstitchref09_In.l2 k x3 x5 0 x102000 x102001 x102002 x102003) else (some x3)
noncomputable def lockstitchref09_In.l2 : Nat → List Int → Int → Int → List ByteArray → ByteArray → ByteArray → List (S36) → Option (List Int)
  | 0, _, _, _, _, _, _, _ => none
  | k + 1, x3, x5, x6, x102000, x102001, x102002, x102003 => if x6 < (x102003.length : Int) then (if 0 ≤ x6 then (if x6 < (x3.length : Int) then ((lockstitchref09_Out.f k x102000 x102001 x102002 x102003 x6 (rd x3 x6)).bind fun t107 => ((lockstitchref07_Next.f k x102000 x102001 x102002 x102003 x6).bind fun t108 => (lockstitchref09_In.l3 k x3 x5 x6 t107 t108 0 x102000 x102001 x102002 x102003))) else (none)) else (none)) else (lockstitchref09_In.l1 k x3 (wrap64 (x5 + 1)) x102000 x102001 x102002 x102003)
noncomputable def lockstitchref09_In.l3 : Nat → List Int → Int → Int → Int → List Int → Int → List ByteArray → ByteArray → ByteArray → List (S36) → Option (List Int)
  | 0, _, _, _, _, _, _, _, _, _, _ => none
  | k + 1, x3, x5, x6, x7, x8, x9, x102000, x102001, x102002, x102003 => if x9 < (x8.length : Int) then (if 0 ≤ x9 then (if 0 ≤ (rd x8 x9) then (if (rd x8 x9) < (x3.length : Int) then (lockstitchref09_In.l3 k (x3.set ((rd x8 x9) : Int).toNat (Go.bits .and .u8 (rd x3 (rd x8 x9)) x7)) x5 x6 x7 x8 (wrap64 (x9 + 1)) x102000 x102001 x102002 x102003) else (none)) else (none)) else (none)) else (lockstitchref09_In.l2 k x3 x5 (wrap64 (x6 + 1)) x102000 x102001 x102002 x102003)
end
noncomputable def lockstitchref09_In.f (k : Nat) (l0_0 : List ByteArray) (a0_1 : ByteArray) (a0_2 : ByteArray) (l0_3 : List (S36)) : Option (List Int) := if 0 ≤ (wrap64 ((l0_3.length : Int) + 1)) then (if (wrap64 ((l0_3.length : Int) + 1) : Int).toNat ≤ 281474976710656 then (lockstitchref09_In.l0 k (List.replicate (wrap64 ((l0_3.length : Int) + 1) : Int).toNat 0) 0 l0_0 a0_1 a0_2 l0_3) else (none)) else (none)
noncomputable def lockstitchref09_In.T12 : Bool × List (List Nat × List Nat) := (true, [([], []), ([], []), ([], []), ([], []), ([2, 3], [2, 3]), ([4], [4]), ([0, 1, 5], [0, 1, 5]), ([6, 6, 0, 1, 2, 3, 4, 5, 6], [6])])
noncomputable def lockstitchref09_In.B12 : List Nat := [0, 0, 0, 0, 12, 28, 63, 127]
end Go.Proofs.YtkmkfiidlbhcgaaDoor.ZE

namespace Go.Proofs.YtkmkfiidlbhcgaaDoor.ZE
open Go.RowKit Go.Proofs.YtkmkfiidlbhcgaaDoorW.PrintWords Go.Proofs.YtkmkfiidlbhcgaaDoorW.PrintLast Go.Proofs.YtkmkfiidlbhcgaaDoorW.PrintMore
attribute [local go_sem] max2_int min2_int max_two min_two max_three min_three max_four min_four
set_option linter.unusedVariables false
set_option linter.unusedSimpArgs false
open Go.Proofs.YtkmkfiidlbhcgaaDoor.F
open Go.Proofs.YtkmkfiidlbhcgaaDoor.V
open Go.Proofs.YtkmkfiidlbhcgaaDoor.Z
end Go.Proofs.YtkmkfiidlbhcgaaDoor.ZE
